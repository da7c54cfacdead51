/-
  Part 5 of 7.
-/
import Derived.Test.YtmkkanmkjfnpdaaMs4
import Derived.Test.YtmkkanmkjfnpdaaMs3
import Derived.Test.YtmkkanmkjfnpdaaMs2
import Derived.Conc.Holds
import Derived.JoinedCond
import Derived.Conc.WgGenN2
set_option linter.unusedVariables false
set_option linter.unusedSimpArgs false
namespace Go.PB
open Go.Conc
section
variable {P:Program} {cv:Value} {kd:CallKind} {n:Nat} {K:Post (fHand P cv)} {e:Env} {z:Z} {L:List HProp} {l:List OpG} {d:Option Nat} {ty:TypeId} {gd:Option (Nat × Bool)} {tys:Array TypeId}
 {g:Game} {s1 s2 s3 wg m:Nat} {q:g.θ} {mk:Int × Int} {F:g.σ→g.σ × g.θ} {b o:Nat}
theorem wo_loadF {f:Nat} [x:Exn P f (Extern.Atomic.loadT (.int .u64))] {o1:Operand} (Rv:g.σ→Int→Prop) (hx:ev e o1=some (.pointer (some ⟨b,o,none⟩))) (hpl:g.plan q=some (mk,F)) (hg:gYes e gd) (hk:kd≠.early)
  (ha:∀ st r,g.ok st→g.U st r→∃ v,r.own b o=some (.int .u64 v)∧g.U (F st).1 r∧Rv st v)
  (k:∀ st v m',m=m'+1→g.ok st→Rv st v→Wo P (fHand P cv) kd n l K (setE d (.int .u64 v) e) z L (⟨g,s1,s2,s3,wg,.free (F st).2 m'⟩:TX)) :
  Wo P (fHand P cv) kd n (⟨d,.call ⟨.value (.func f),#[o1],tys⟩,ty,gd⟩::l) K e z L (⟨g,s1,s2,s3,wg,.free q m⟩:TX) :=
 wo_atom (Rv:=fun st v=>∃ w,v=.int .u64 w∧Rv st w) hpl hg hk (fun t a st r h1 h2=>by
  obtain ⟨v,c1,c2,c3⟩:=ha st r h1 h2
  exact ⟨b,o,_,.int .u64 v,none,c1,by rw [exec_call (args:=[o1]) (.cons hx .nil) a];exact atom_load,c2,v,rfl,c3⟩)
  (by rintro st _ m' h1 h2 ⟨w,rfl,h3⟩;exact k st w m' h1 h2 h3)
theorem wo_storeF {f:Nat} [x:Exn P f Extern.Atomic.storeT] {o1 o2:Operand} {y:Int} (hx:ev e o1=some (.pointer (some ⟨b,o,none⟩))) (hy:ev e o2=some (.int .u64 y)) (hpl:g.plan q=some (mk,F)) (hg:gYes e gd) (hk:kd≠.early)
  (ha:∀ st r,g.ok st→g.U st r→∃ v,r.own b o=some (.int .u64 v)∧g.U (F st).1 (r.lay b o (some (.int .u64 y))))
  (k:∀ st m',m=m'+1→g.ok st→Wo P (fHand P cv) kd n l K (setE d unit e) z L (⟨g,s1,s2,s3,wg,.free (F st).2 m'⟩:TX)) :
  Wo P (fHand P cv) kd n (⟨d,.call ⟨.value (.func f),#[o1,o2],tys⟩,ty,gd⟩::l) K e z L (⟨g,s1,s2,s3,wg,.free q m⟩:TX) :=
 wo_atom (Rv:=fun st v=>v=unit) hpl hg hk (fun t a st r h1 h2=>by
  obtain ⟨v,c1,c2⟩:=ha st r h1 h2
  exact ⟨b,o,_,unit,_,c1,by rw [exec_call (args:=[o1,o2]) (.cons hx (.cons hy .nil)) a];exact atom_store,c2,rfl⟩)
  (by rintro st _ m' h1 h2 rfl;exact k st m' h1 h2)
theorem wo_addF {f:Nat} [x:Exn P f (Extern.Atomic.update (Op.intArith .add) .u64 true)] {o1 o2:Operand} {y:Int} (Rv:g.σ→Int→Prop) (hx:ev e o1=some (.pointer (some ⟨b,o,none⟩))) (hy:ev e o2=some (.int .u64 y)) (hpl:g.plan q=some (mk,F)) (hg:gYes e gd) (hk:kd≠.early)
  (ha:∀ st r,g.ok st→g.U st r→∃ v w,r.own b o=some (.int .u64 v)∧IntKind.u64.wrap (v+y)=w∧g.U (F st).1 (r.lay b o (some (.int .u64 w)))∧Rv st w)
  (k:∀ st v m',m=m'+1→g.ok st→Rv st v→Wo P (fHand P cv) kd n l K (setE d (.int .u64 v) e) z L (⟨g,s1,s2,s3,wg,.free (F st).2 m'⟩:TX)) :
  Wo P (fHand P cv) kd n (⟨d,.call ⟨.value (.func f),#[o1,o2],tys⟩,ty,gd⟩::l) K e z L (⟨g,s1,s2,s3,wg,.free q m⟩:TX) :=
 wo_atom (Rv:=fun st v=>∃ w,v=.int .u64 w∧Rv st w) hpl hg hk (fun t a st r h1 h2=>by
  obtain ⟨v,w,c1,rfl,c2,c3⟩:=ha st r h1 h2
  exact ⟨b,o,_,_,_,c1,by rw [exec_call (args:=[o1,o2]) (.cons hx (.cons hy .nil)) a];exact atom_add,c2,_,rfl,c3⟩)
  (by rintro st _ m' h1 h2 ⟨w,rfl,h3⟩;exact k st w m' h1 h2 h3)
theorem wo_casF {f:Nat} [x:Exn P f (Extern.Atomic.casT (.int .u64))] {o1 o2 o3:Operand} {a y:Int} (Rv:g.σ→Bool→Prop) (hx:ev e o1=some (.pointer (some ⟨b,o,none⟩))) (hy:ev e o2=some (.int .u64 a)) (hz:ev e o3=some (.int .u64 y)) (hpl:g.plan q=some (mk,F)) (hg:gYes e gd) (hk:kd≠.early)
  (ha:∀ st r,g.ok st→g.U st r→∃ v,r.own b o=some (.int .u64 v)∧g.U (F st).1 (r.lay b o (if v=a then some (.int .u64 y) else none))∧Rv st (decide (v=a)))
  (k:∀ st v m',m=m'+1→g.ok st→Rv st v→Wo P (fHand P cv) kd n l K (setE d (.bool v) e) z L (⟨g,s1,s2,s3,wg,.free (F st).2 m'⟩:TX)) :
  Wo P (fHand P cv) kd n (⟨d,.call ⟨.value (.func f),#[o1,o2,o3],tys⟩,ty,gd⟩::l) K e z L (⟨g,s1,s2,s3,wg,.free q m⟩:TX) :=
 wo_atom (Rv:=fun st v=>∃ w,v=.bool w∧Rv st w) hpl hg hk (fun t ag st r h1 h2=>by
  obtain ⟨v,c1,c2,c3⟩:=ha st r h1 h2
  exact ⟨b,o,_,_,_,c1,by rw [exec_call (args:=[o1,o2,o3]) (.cons hx (.cons hy (.cons hz .nil))) ag];exact atom_cas,c2,_,rfl,c3⟩)
  (by rintro st _ m' h1 h2 ⟨w,rfl,h3⟩;exact k st w m' h1 h2 h3)
end
end Go.PB
namespace Go.Proofs.Ytmkkanmkjfnpdaa
open Go Go.PB
attribute [local irreducible] Mo Bin Eql Tr Wo Ap Wle
attribute [local instance] Pass.of_no
section
variable {G:WGm} {addr:Nat→Nat × Nat} {N:Nat} {K:List (Nat × Nat × Value)} {wg:Nat} {L F:List HProp} {b o w:Nat}
theorem U_own {s:G.σ} {r:Hp} (hU:(G.g addr N K).U s r) (hw:w<N) (ha:addr w=(b,o)):r.own b o=some (.int .u64 (G.wf s w:Nat))∧G.wf s w<18446744073709551616:=by
 obtain ⟨h1,h2,sp,hc,_⟩:=hU
 have:=hc.1 w hw
 rw [ha] at this
 exact ⟨sp.o1 _ _ _ this.2,this.1⟩
theorem U_keep {s s':G.σ} {r:Hp} (hU:(G.g addr N K).U s r) (hf:∀ i,i<N→G.wf s' i=G.wf s i) (hz:G.zf s'=G.zf s):(G.g addr N K).U s' r:=by
 show Star [_,G.Z (G.zf s')] r
 rw [hz]
 exact star_map hU (wds_congr fun i hi=>(hf i hi).symm) fun _ z=>z
theorem U_lay (A:Apart addr N K) {s s':G.σ} {r:Hp} {n:Nat} (hU:(G.g addr N K).U s r) (hw:w<N) (ha:addr w=(b,o)) (hn:n<18446744073709551616) (hf:∀ i,i<N→G.wf s' i=upd (G.wf s) w n i) (hz:G.zf s'=G.zf s):(G.g addr N K).U s' (r.lay b o (some (.int .u64 (n:Nat)))):=by
 have h1:Star (wds addr N K (upd (G.wf s) w n)::[G.Z (G.zf s)]) (r.set b o (.int .u64 (n:Nat))):=(wt_wds A (.here:Has [wds addr N K (G.wf s),G.Z (G.zf s)] _ _) hw ha hn r hU).2
 show Star [_,G.Z (G.zf s')] _
 rw [hz]
 exact star_map h1 (wds_congr fun i hi=>(hf i hi).symm) fun _ z=>z
structure FrS (G:WGm) where
 q:G.θ
 n:Nat
abbrev frX (G:WGm) (addr:Nat→Nat × Nat) (N:Nat) (K:List (Nat × Nat × Value)) (wg:Nat) (s:FrS G):TX:=tx (G.g addr N K) 0 0 0 wg (.free s.q s.n)
theorem load_free (hw:w<N) (ha:addr w=(b,o)) {q:G.θ} {m:Nat} {mk:Int × Int} {FF:G.σ→G.σ × G.θ} (hpl:G.plan q=some (mk,FF)) (hk:∀ st,G.ok st→(∀ i,i<N→G.wf (FF st).1 i=G.wf st i)∧G.zf (FF st).1=G.zf st) :
  Tr Try.prog fH 48 [.pointer (some ⟨b,o,none⟩)] L (frX G addr N K wg ⟨q,m⟩) fun v L' x'=>∃ st m',m'<m∧G.ok st∧G.wf st w<18446744073709551616∧v=.int .u64 (G.wf st w:Nat)∧L'=L∧x'=frX G addr N K wg ⟨(FF st).2,m'⟩:=by
 refine tr_of_body Try.func48 rfl Try.ntmps48 (by simp) fun um Q _ hQ=>?_
 simp only [argE,Nat.zero_add,Nat.reduceAdd]
 repeat (first | refine we_seq ?_ | (refine wR ?_;try simp only [oS]) | refine wo_nil ?_ | refine wM ?_ | refine wA ?_ | refine wN ?_ | refine wD ?_)
 refine wo_loadF (g:=G.g addr N K) (F:=FF) (b:=b) (o:=o) (fun st v=>v=(G.wf st w:Nat)∧G.wf st w<18446744073709551616) rfl hpl trivial (by decide) (fun st r h1 h2=>⟨_,(U_own h2 hw ha).1,U_keep h2 (hk st h1).1 (hk st h1).2,rfl,(U_own h2 hw ha).2⟩) ?_
 rintro st _ m' hm hok ⟨rfl,hlt⟩
 repeat (first | refine wo_nil ?_ | refine wA ?_ | refine we_ret ?_)
 (first | refine or1 Try.func48 Try.results48 hQ rfl ?_ | refine on1 Try.func48 Try.results48 hQ rfl ?_)
 exact ⟨st,m',(by have h0:m=m'+1:=hm;omega),hok,hlt,rfl,rfl,rfl⟩
theorem store_free (A:Apart addr N K) (hw:w<N) (ha:addr w=(b,o)) {n:Nat} (hn:n<18446744073709551616) {q:G.θ} {m:Nat} {mk:Int × Int} {FF:G.σ→G.σ × G.θ} (hpl:G.plan q=some (mk,FF)) (hk:∀ st,G.ok st→(∀ i,i<N→G.wf (FF st).1 i=upd (G.wf st) w n i)∧G.zf (FF st).1=G.zf st) :
  Tr Try.prog fH 62 [.pointer (some ⟨b,o,none⟩),.int .u64 (n:Nat)] L (frX G addr N K wg ⟨q,m⟩) fun v L' x'=>∃ st m',m'<m∧G.ok st∧v=.tuple #[]∧L'=L∧x'=frX G addr N K wg ⟨(FF st).2,m'⟩:=by
 refine tr_of_body Try.func62 rfl Try.ntmps62 (by simp) fun um Q _ hQ=>?_
 simp only [argE,Nat.zero_add,Nat.reduceAdd]
 repeat (first | (refine wR ?_;try simp only [oS]) | refine wM ?_ | refine wN ?_ | refine wD ?_)
 refine wo_storeF (g:=G.g addr N K) (F:=FF) (b:=b) (o:=o) (y:=(n:Nat)) rfl rfl hpl trivial (by decide) (fun st r h1 h2=>⟨_,(U_own h2 hw ha).1,U_lay A h2 hw ha hn (hk st h1).1 (hk st h1).2⟩) ?_
 rintro st m' hm hok
 repeat (first | refine wo_nil ?_)
 (first | refine or0 Try.func62 Try.results62 hQ ?_ | refine on0 Try.func62 Try.results62 hQ ?_)
 exact ⟨st,m',(by have h0:m=m'+1:=hm;omega),hok,rfl,rfl,rfl⟩
theorem add_free (A:Apart addr N K) (hw:w<N) (ha:addr w=(b,o)) {n:Nat} {q:G.θ} {m:Nat} {mk:Int × Int} {FF:G.σ→G.σ × G.θ} (hpl:G.plan q=some (mk,FF)) (hk:∀ st,G.ok st→(∀ i,i<N→G.wf (FF st).1 i=upd (G.wf st) w ((G.wf st w+n)%18446744073709551616) i)∧G.zf (FF st).1=G.zf st) :
  Tr Try.prog fH 65 [.pointer (some ⟨b,o,none⟩),.int .u64 (n:Nat)] L (frX G addr N K wg ⟨q,m⟩) fun v L' x'=>∃ st m',m'<m∧G.ok st∧v=.int .u64 ((G.wf st w+n)%18446744073709551616:Nat)∧L'=L∧x'=frX G addr N K wg ⟨(FF st).2,m'⟩:=by
 refine tr_of_body Try.func65 rfl Try.ntmps65 (by simp) fun um Q _ hQ=>?_
 simp only [argE,Nat.zero_add,Nat.reduceAdd]
 repeat (first | refine we_seq ?_ | (refine wR ?_;try simp only [oS]) | refine wo_nil ?_ | refine wM ?_ | refine wA ?_ | refine wN ?_ | refine wD ?_)
 refine wo_addF (g:=G.g addr N K) (F:=FF) (b:=b) (o:=o) (y:=(n:Nat)) (fun st v=>v=(((G.wf st w+n)%18446744073709551616:Nat):Int)) rfl rfl hpl trivial (by decide) (fun st r h1 h2=>⟨_,((G.wf st w+n)%18446744073709551616:Nat),(U_own h2 hw ha).1,by rw [wrap_u64_mod];omega,U_lay A h2 hw ha (Nat.mod_lt _ (by decide)) (hk st h1).1 (hk st h1).2,rfl⟩) ?_
 rintro st _ m' hm hok rfl
 repeat (first | refine wo_nil ?_ | refine wA ?_ | refine we_ret ?_)
 (first | refine or1 Try.func65 Try.results65 hQ rfl ?_ | refine on1 Try.func65 Try.results65 hQ rfl ?_)
 exact ⟨st,m',(by have h0:m=m'+1:=hm;omega),hok,rfl,rfl,rfl⟩
theorem cas_free (A:Apart addr N K) (hw:w<N) (ha:addr w=(b,o)) {a n:Nat} (hn:n<18446744073709551616) {q:G.θ} {m:Nat} {mk:Int × Int} {FF:G.σ→G.σ × G.θ} (hpl:G.plan q=some (mk,FF)) (hk:∀ st,G.ok st→(∀ i,i<N→G.wf (FF st).1 i=(if G.wf st w=a then upd (G.wf st) w n else G.wf st) i)∧G.zf (FF st).1=G.zf st) :
  Tr Try.prog fH 84 [.pointer (some ⟨b,o,none⟩),.int .u64 (a:Nat),.int .u64 (n:Nat)] L (frX G addr N K wg ⟨q,m⟩) fun v L' x'=>∃ st m',m'<m∧G.ok st∧v=.bool (decide (G.wf st w=a))∧L'=L∧x'=frX G addr N K wg ⟨(FF st).2,m'⟩:=by
 refine tr_of_body Try.func84 rfl Try.ntmps84 (by simp) fun um Q _ hQ=>?_
 simp only [argE,Nat.zero_add,Nat.reduceAdd]
 repeat (first | refine we_seq ?_ | (refine wR ?_;try simp only [oS]) | refine wo_nil ?_ | refine wM ?_ | refine wA ?_ | refine wN ?_ | refine wD ?_)
 refine wo_casF (g:=G.g addr N K) (F:=FF) (b:=b) (o:=o) (a:=(a:Nat)) (y:=(n:Nat)) (fun st v=>v=decide (G.wf st w=a)) rfl rfl rfl hpl trivial (by decide) (fun st r h1 h2=>⟨_,(U_own h2 hw ha).1,?_,decide_eq_decide.2 (by omega)⟩) ?_
 ·have hk':=hk st h1
  by_cases hw':G.wf st w=a
  ·rw [if_pos hw'] at hk';rw [if_pos (by omega)];exact U_lay A h2 hw ha hn hk'.1 hk'.2
  ·rw [if_neg hw'] at hk';rw [if_neg (by omega)];exact U_keep h2 hk'.1 hk'.2
 rintro st _ m' hm hok rfl
 repeat (first | refine wo_nil ?_ | refine wA ?_ | refine we_ret ?_)
 (first | refine or1 Try.func84 Try.results84 hQ rfl ?_ | refine on1 Try.func84 Try.results84 hQ rfl ?_)
 exact ⟨st,m',(by have h0:m=m'+1:=hm;omega),hok,rfl,rfl,rfl⟩
def FrStep (G:WGm) (N:Nat) (w:Nat) (s:FrS G) (f:G.σ→Nat→Nat) (R:G.σ→FrS G→Prop):Prop :=
 w<N∧∃ mk F,G.plan s.q=some (mk,F)∧(∀ st,G.ok st→(∀ i,i<N→G.wf (F st).1 i=f st i)∧G.zf (F st).1=G.zf st)∧∀ st n,n<s.n→G.ok st→R st ⟨(F st).2,n⟩
def freAcc (G:WGm) (addr:Nat→Nat × Nat) (N:Nat) (K:List (Nat × Nat × Value)) (A:Apart addr N K) (wg:Nat) (Cf:HProp):Acc fH .nilIface where
 S:=FrS G
 C:=fun _=>Cf
 x:=fun s=>frX G addr N K wg s
 step:=fun _ _ s R=>R s
 addr:=addr
 load:=fun w s R=>FrStep G N w s G.wf fun st s'=>R (G.wf st w) s'
 store:=fun w n s R=>FrStep G N w s (fun st=>upd (G.wf st) w n) fun _ s'=>R s'
 cas:=fun w a n s R=>FrStep G N w s (fun st=>if G.wf st w=a then upd (G.wf st) w n else G.wf st) fun st s'=>R (decide (G.wf st w=a)) s'
 add:=fun w n s R=>FrStep G N w s (fun st=>upd (G.wf st) w ((G.wf st w+n)%18446744073709551616)) fun st s'=>R ((G.wf st w+n)%18446744073709551616) s'
 swap:=fun w n s R=>FrStep G N w s (fun st=>upd (G.wf st) w n) fun st s'=>R (G.wf st w) s'
 gate:=.inl ⟨rfl,fun op w s R h=>h⟩
 load_ok:=fun w s R L F b o ha ⟨hw,mk,FF,hpl,hk,hR⟩ hh=>tr_star _ (fun h st=>hh.star st) ((load_free hw ha hpl hk).post fun v L' x' ⟨st,m',h1,h2,h3,h4,h5,h6⟩ =>
  ⟨_,⟨G.wf st w,⟨(FF st).2,m'⟩,h3,hR st m' h1 h2,h4,rfl,h6⟩,fun h st=>by rw [h5] at st;exact st⟩)
 store_ok:=fun w n s R L F b o ha hn ⟨hw,mk,FF,hpl,hk,hR⟩ hh=>tr_star _ (fun h st=>hh.star st) ((store_free A hw ha hn hpl hk).post fun v L' x' ⟨st,m',h1,h2,h4,h5,h6⟩ =>
  ⟨_,⟨⟨(FF st).2,m'⟩,hR st m' h1 h2,h4,rfl,h6⟩,fun h st=>by rw [h5] at st;exact st⟩)
 cas_ok:=fun w a n s R L F b o ha hn ⟨hw,mk,FF,hpl,hk,hR⟩ hh=>tr_star _ (fun h st=>hh.star st) ((cas_free A hw ha hn hpl hk).post fun v L' x' ⟨st,m',h1,h2,h4,h5,h6⟩ =>
  ⟨_,⟨_,⟨(FF st).2,m'⟩,hR st m' h1 h2,h4,rfl,h6⟩,fun h st=>by rw [h5] at st;exact st⟩)
 add_ok:=fun w n s R L F b o ha hn ⟨hw,mk,FF,hpl,hk,hR⟩ hh=>tr_star _ (fun h st=>hh.star st) ((add_free A hw ha hpl hk).post fun v L' x' ⟨st,m',h1,h2,h4,h5,h6⟩ =>
  ⟨_,⟨_,⟨(FF st).2,m'⟩,Nat.mod_lt _ (by decide),hR st m' h1 h2,h4,rfl,h6⟩,fun h st=>by rw [h5] at st;exact st⟩)
end
end Go.Proofs.Ytmkkanmkjfnpdaa
namespace Go.Proofs.Ytmkkanmkjfnpdaa
open Go Go.PB
attribute [local irreducible] Mo Bin Eql Tr Wo Ap Wle
section
theorem wds_cut1 {addr:Nat→Nat × Nat} {N r o:Nat} {v:Value} {K:List (Nat × Nat × Value)} {f:Nat→Nat} (A:Apart addr N ((r,o,v)::K)) (hK:∀ k∈K,¬ (k.1=r∧k.2.1=o)) {L:List HProp} {h:Hp} (s:Star (wds addr N ((r,o,v)::K) f::L) h):Star (wds addr N K f::arr r o [v]::L) h:=by
 obtain ⟨h1,h2,sp,hc,hL⟩:=s
 have hk:h1.own r o=some v:=hc.2 (r,o,v) List.mem_cons_self
 let ha:Hp:={ h1 with own:=fun b p=>if b=r∧p=o then none else h1.own b p }
 let hb:Hp:=⟨fun b p=>if b=r∧p=o then some v else none,fun _ _=>none,fun _=>none,fun _=>none⟩
 have s1:Split h1 ha hb:=by
  refine ⟨fun _ _ _ e=>e,fun _ _ _ e=>(by cases e),fun b p u e=>?_,fun b p u e=>?_,fun b p=>?_,fun _ _ e=>e,fun _ _ e=>(by cases e),fun _=>.inr rfl,fun _ _ e=>e,fun _ _ e=>(by cases e)⟩
  ·simp only [ha] at e;split at e
   ·cases e
   ·exact e
  ·simp only [hb] at e;split at e
   ·rename_i hh;cases e;rw [hh.1,hh.2];exact hk
   ·cases e
  ·by_cases hh:b=r∧p=o
   ·left;simp [ha,hh]
   ·right;simp [hb,hh]
 obtain ⟨t1,t2⟩:=sp.swap.assoc s1
 refine ⟨ha,_,t1,⟨fun w hw=>?_,fun k hk=>?_⟩,hb,h2,t2.swap,fun i u hi=>?_,hL⟩
 ·obtain ⟨e1,e2⟩:=hc.1 w hw
  refine ⟨e1,?_⟩
  have hne:=A.fix w hw (r,o,v) List.mem_cons_self
  show (if (addr w).1=r∧(addr w).2=o then none else h1.own (addr w).1 (addr w).2)=_
  rw [if_neg fun hh=>hne (Prod.ext hh.1 hh.2)];exact e2
 ·show (if k.1=r∧k.2.1=o then none else h1.own k.1 k.2.1)=_
  rw [if_neg (hK k hk)];exact hc.2 k (List.mem_cons_of_mem _ hk)
 ·have:i=0:=by have:=(List.getElem?_eq_some_iff.1 hi).1;simp at this;omega
  subst this
  simp at hi;subst hi
  show (if r=r∧o+0=o then some _ else none)=_
  rw [if_pos ⟨rfl,Nat.add_zero o⟩]
theorem apart_tail {addr:Nat→Nat × Nat} {N:Nat} {c:Nat × Nat × Value} {K:List (Nat × Nat × Value)} (A:Apart addr N (c::K)):Apart addr N K:=⟨A.inj,fun w hw k hk=>A.fix w hw k (List.mem_cons_of_mem _ hk)⟩
end
section
section
variable {B:Hand} [Lets B]
def kpAcc (x:B.X) (addr:Nat→Nat × Nat) (N:Nat) (A:Apart addr N []) (Cf:HProp):Acc B .nilIface where
 S:=Nat→Nat
 C:=fun s=>all [wds addr N [] s,Cf]
 x:=fun _=>x
 step:=fun _ _ s R=>R s
 addr:=addr
 load:=fun w s R=>w<N∧R (s w) s
 store:=fun w n s R=>w<N∧R (upd s w n)
 cas:=fun w a n s R=>w<N∧if s w=a then R true (upd s w n) else R false s
 add:=fun w n s R=>w<N∧R ((s w+n)%18446744073709551616) (upd s w ((s w+n)%18446744073709551616))
 swap:=fun w n s R=>w<N∧R (s w) (upd s w n)
 gate:=.inl ⟨rfl,fun _ _ _ _ h=>h⟩
 load_ok:=fun w s R L F b o ha hl hh=>tr_star _ (fun h st=>star_open (hh.star st)) (tr_pure (of_has .here fun h hc=>(hc.1 w hl.1).1) fun hs =>
  (load_lone (rd_wds .here hl.1 ha)).post fun v L' x' ⟨h1,h2,h3⟩=>⟨_,⟨s w,s,hs,hl.2,h1,rfl,h3⟩,fun h st=>star_shut (M:=[_,_]) (by rw [h2] at st;exact st)⟩)
 store_ok:=fun w n s R L F b o ha hn hl hh=>tr_star _ (fun h st=>star_open (hh.star st))
  ((store_lone (wt_wds A .here hl.1 ha hn)).post fun v L' x' ⟨h1,h2,h3⟩=>⟨_,⟨upd s w n,hl.2,h1,rfl,h3⟩,fun h st=>star_shut (M:=[_,_]) (by rw [h2] at st;exact st)⟩)
 cas_ok:=fun w m n s R L F b o ha hn hl hh=>tr_star _ (fun h st=>star_open (hh.star st))
  ((cas_lone (rd_wds .here hl.1 ha) (wt_wds A .here hl.1 ha hn)).post fun v L' x' ⟨h1,h2,h3⟩=>by
   obtain ⟨h4,h5⟩:=hl
   by_cases e:s w=m
   ·rw [if_pos e] at h5;rw [if_pos (by omega)] at h2;exact ⟨_,⟨true,_,h5,by rw [h1];simp [e],rfl,h3⟩,fun h st=>star_shut (M:=[_,_]) (by rw [h2] at st;exact st)⟩
   ·rw [if_neg e] at h5;rw [if_neg (by omega)] at h2;exact ⟨_,⟨false,_,h5,by rw [h1];simp;omega,rfl,h3⟩,fun h st=>star_shut (M:=[_,_]) (by rw [h2] at st;exact st)⟩)
 add_ok:=fun w n s R L F b o ha hn hl hh=>tr_star _ (fun h st=>star_open (hh.star st))
  ((add_lone (r:=((s w+n)%18446744073709551616:Nat)) (rd_wds .here hl.1 ha) (by rw [wrap_u64_mod];omega) (wt_wds A .here hl.1 ha (Nat.mod_lt _ (by decide)))).post fun v L' x' ⟨h1,h2,h3⟩=>⟨_,⟨_,_,Nat.mod_lt _ (by decide),hl.2,h1,rfl,h3⟩,fun h st=>star_shut (M:=[_,_]) (by rw [h2] at st;exact st)⟩)
end
end
end Go.Proofs.Ytmkkanmkjfnpdaa
namespace Go.PB
open Go
section
def Dup (c:HProp):Prop:=∀ (L:List HProp) (h:Hp),Star (c::L) h→Star (c::c::L) h
theorem dup_fro {b o:Nat} {vs:List Value}:Dup (fro b o vs):=fun L h s=>fro_two s
theorem dup_base {W:World}:Dup (base W):=fun L h s=>by
 obtain ⟨h1,h2,s1,ha,hL⟩:=s
 exact ⟨⟨fun _ _=>none,h1.ro,fun _=>none,fun _=>none⟩,h,⟨fun _ _ _ e=>s1.r1 _ _ _ e,fun _ _ _ e=>e,fun _ _ _ e=>by simp at e,fun _ _ _ e=>e,fun _ _=>.inl rfl,fun _ _ e=>by simp at e,fun _ _ e=>e,fun _=>.inl rfl,fun _ _ e=>by simp at e,fun _ _ e=>e⟩,ha,h1,h2,s1,ha,hL⟩
theorem all_cons {c:HProp} {M L:List HProp} {h:Hp} (s:Star (all (c::M)::L) h):Star (c::all M::L) h :=
 star_map (star_open (M:=c::M) s) (fun _ z=>z) fun _ z=>star_shut z
theorem cons_all {c:HProp} {M L:List HProp} {h:Hp} (s:Star (c::all M::L) h):Star (all (c::M)::L) h :=
 star_shut (M:=c::M) (star_map s (fun _ z=>z) fun _ z=>star_open z)
theorem dup_all:∀ {M:List HProp},(∀ c∈M,Dup c)→Dup (all M)
 | [],_=>fun L h s=>star_shut (M:=[]) s
 | c::M,hM=>fun L h s=>by
  have s1:=hM c (by simp) _ _ (all_cons s)
  have s2:Star (all M::c::c::L) h:=Ent.star (.take (.there (.there .here)) (.take .here (.take .here .refl))) s1
  have s3:=dup_all (fun d hd=>hM d (by simp [hd])) _ _ s2
  have s4:Star (c::all M::c::all M::L) h:=Ent.star (.take (.there (.there .here)) (.take .here (.take (.there .here) (.take .here .refl)))) s3
  exact cons_all (star_map s4 (fun _ z=>z) fun _ z=>star_map z (fun _ z=>z) fun _ z=>cons_all z)
theorem dup_many {c:HProp} (hc:Dup c) {L:List HProp} {h:Hp} (s:Star (c::L) h):∀ n,Star (all (List.replicate n c)::c::L) h
 | 0=>star_shut (M:=[]) s
 | n+1=>by
  have s1:=dup_many hc s n
  have s2:=hc _ _ (star_swap s1)
  have s3:Star (c::all (List.replicate n c)::c::L) h:=Ent.star (.take .here (.take (.there .here) (.take .here .refl))) s2
  rw [List.replicate_succ]
  exact cons_all s3
theorem star_zip:∀ {As Bs L:List HProp} {h:Hp},As.length=Bs.length→Star (all As::all Bs::L) h→Star (all (List.zipWith (fun a b=>all [a,b]) As Bs)::L) h
 | [],[],L,h,_,s=>star_shut (M:=[]) (star_drop (star_drop s))
 | [],b::Bs,L,h,e,s=>by simp at e
 | a::As,[],L,h,e,s=>by simp at e
 | a::As,b::Bs,L,h,e,s=>by
  have s1:=all_cons s
  have s2:Star (all (b::Bs)::a::all As::L) h:=Ent.star (.take (.there (.there .here)) (.take .here (.take .here .refl))) s1
  have s3:=all_cons s2
  have s4:Star (all As::all Bs::a::b::L) h:=Ent.star (.take (.there (.there (.there .here))) (.take (.there .here) (.take (.there .here) (.take .here .refl)))) s3
  have s5:=star_zip (by simpa using e) s4
  have s6:Star (a::b::all (List.zipWith (fun a b=>all [a,b]) As Bs)::L) h:=Ent.star (.take (.there .here) (.take (.there .here) (.take .here .refl))) s5
  exact cons_all (star_shut (M:=[_,_]) s6)
theorem star_tail:∀ {M L:List HProp} {h:Hp},Star (M++L) h→Star (all L::M) h
 | [],L,h,s=>star_shut (L:=[]) (by rw [List.append_nil];exact s)
 | c::M,L,h,s=>star_swap (star_map (L:=M++L) s (fun _ z=>z) fun _ z=>star_tail z)
theorem zeros_rep {n:Nat} {v:Value}:zeros n [v]=List.replicate n v:=by
 unfold zeros
 induction n with
 | zero=>rfl
 | succ n ih=>rw [List.replicate_succ,List.flatten_cons,ih,List.replicate_succ];rfl
theorem alls_ex {Y:Type}:∀ {M:List HProp} {C:Nat→Y→HProp} {Q:Nat→Y→Prop} (hM:∀ (k:Nat) c,M[k]?=some c→∀ h,c h→∃ y,Q k y∧C k y h) {L:List HProp} {h:Hp},Star (all M::L) h →
  ∃ ys:List Y,(ys.length=M.length∧∀ (k:Nat) y,ys[k]?=some y→Q k y)∧Star (all (ys.mapIdx C)::L) h
 | [],C,Q,hM,L,h,s=>⟨[],⟨rfl,fun k y hy=>by simp at hy⟩,s⟩
 | c::M,C,Q,hM,L,h,s=>by
  obtain ⟨h1,h2,sp,hc,hr⟩:=all_cons s
  obtain ⟨y,hq,hy⟩:=hM 0 c rfl h1 hc
  obtain ⟨ys,⟨hl,hQ⟩,hs⟩:=alls_ex (C:=fun k=>C (k+1)) (Q:=fun k=>Q (k+1)) (fun k c hk=>hM (k+1) c hk) hr
  refine ⟨y::ys,⟨by simp [hl],fun k z hz=>?_⟩,?_⟩
  ·cases k with
   | zero=>cases hz;exact hq
   | succ k=>exact hQ k z hz
  ·rw [List.mapIdx_cons]
   exact cons_all ⟨h1,h2,sp,hy,hs⟩
theorem rd_item {M L:List HProp} {c:HProp} {k b o:Nat} {v:Value} (e:M[k]?=some c) (r:Rd [c] b o v):Rd (all M::L) b o v:=fun h s=>by
 obtain ⟨h1,h2,sp,hc,hr⟩:=PB.star_pick e s
 exact (Rd.of (R:=all (M.eraseIdx k)::L) .here r) h ⟨h1,h2,sp,hc,hr⟩
end
end Go.PB
namespace Go.Proofs.Ytmkkanmkjfnpdaa
open Go Go.PB
attribute [local irreducible] Mo Bin Eql Tr Wo Ap Wle
section
theorem rd_allR {M L:List HProp} {b o:Nat} {v:Value} (r:Rd M b o v):Rd (all M::L) b o v:=fun h s =>
 r h (star_drop (star_tail (star_open s)))
def mrCell (pb tb pn me:Nat) (sv:Value):HProp:=arr (if me<pn then pb else tb) (if me<pn then me else me-pn) [sv]
def mrLst (pb tb pn me:Nat) (out:List Nat):HProp:=fun h=>∃ sv,all [mrCell pb tb pn me sv,vec 1 sv (out.map num)] h
def mrOut (pn:Nat) (q:MrT):List Nat:=if q.q.me<pn then q.q.pa else match q.m with
 | .c2=>q.q.ta.dropLast
 | _=>q.q.ta
def mrW (n:Nat) (fr:Bool) (pb tb pn nc:Nat):WGm where
 σ:=QS
 θ:=MrT
 ζ:=Unit
 wf:=QS.f
 zf:=fun _=>()
 Z:=fun _=>newsC nc
 plan:=mrPlan n fr
 ok:=fun _=>True
 Pv:=fun q=>all [mrLst pb tb pn q.q.me (mrOut pn q)]
 up:=fun q h st=>star_open (M:=[_]) st
theorem m_apart0 {mr r b n:Nat} (h1:r≠b) (h2:mr≠r) (h3:mr≠b):Apart (maddr mr r b n) (2*n+5) []:=apart_tail (apart_tail (apart_tail (m_apart (nc:=0) h1 h2 h3)))
structure MrRo (Ro:HProp) (mr r b n nc:Nat):Prop where
 q:Rd [Ro] r 2 (.slice (some ⟨b,0,none⟩) n n)
 m:Rd [Ro] mr 3 (.pointer (some ⟨r,0,none⟩))
 c:Rd [Ro] mr 4 (.chan (some nc))
theorem maddr_at {B:Hand} {gv:Value} {A:Acc B gv} {mr r b n k nc:Nat} {Ro:HProp} (ha:A.addr=maddr mr r b n) (hn:n=2^k) (hk:k≤10) (hr:∀ s {b o:Nat} {v:Value},Rd [Ro] b o v→Rd [A.C s] b o v) (O:MrRo Ro mr r b n nc):MirAt A mr r b n k nc where
 q:={ hn:=hn,hk:=hk,hdr:=fun s=>hr s O.q,a0:=by rw [ha];unfold maddr;rw [if_pos (by omega)];rfl,a1:=by rw [ha];unfold maddr;rw [if_pos (by omega)];rfl,a2:=fun i hi=>by rw [ha];unfold maddr;rw [if_pos (by omega),Nat.add_comm];rfl }
 hq:=fun s=>hr s O.m
 hc:=fun s=>hr s O.c
 a:=fun j hj=>by rw [ha];unfold maddr;rw [if_neg (by omega),Nat.add_sub_cancel_left]
section
variable {n k pb tb pn nc mr r b:Nat} {h1:r≠b} {h2:mr≠r} {h3:mr≠b} {sb says turn fin wg:Nat} {Pm Cf Ro p:HProp} {me:Nat} {pa ta:List Nat} {rest:List (Option Nat)} {c:Option Nat} {v:Nat}
structure MrS (q:MrT) (s:GaS (mrW n false pb tb pn nc)):Prop where
 q:s.q=q
 f:∀ i,i<2*n+5→s.f i=(show QS from s.s).f i
 c:s.c=()
abbrev mrF (n pb tb pn nc mr r b:Nat) (h1:r≠b) (h2:mr≠r) (h3:mr≠b) (wg:Nat) (Cf:HProp):Acc fH .nilIface:=freAcc (mrW n true pb tb pn nc) (maddr mr r b n) (2*n+5) [] (m_apart0 h1 h2 h3) wg Cf
theorem mrF_at (hn:n=2^k) (hk:k≤10) (O:MrRo Ro mr r b n nc):MirAt (mrF n pb tb pn nc mr r b h1 h2 h3 wg (all [p,Ro])) mr r b n k nc :=
 maddr_at rfl hn hk (fun s _ _ _ hC=>rd_allR (.there hC)) O
theorem mf_lift {q:MrT} {m0 w:Nat} {mk:Int × Int} {G:QS→QS × QT} (hw:w<2*n+5) (hG:qPlan n q.q=some (mk,G)) (hm:mrPlan n true q=mrLift n true q) {f:QS→Nat→Nat} (hf:∀ st i,i<2*n+5→(G st).1.f i=f st i) {R:QS→FrS (mrW n true pb tb pn nc)→Prop}
  (hR:∀ (st:QS) m',m'<m0→R st ⟨(⟨(G st).2,if (G st).2.cs.length=q.q.cs.length then q.m else mrNext true q.q (G st).2⟩:MrT),m'⟩):FrStep (mrW n true pb tb pn nc) (2*n+5) w ⟨q,m0⟩ f R :=
 ⟨hw,mk,(fun st:QS=>((G st).1,(⟨(G st).2,if (G st).2.cs.length=q.q.cs.length then q.m else mrNext true q.q (G st).2⟩:MrT)):QS→QS × MrT),by
  show mrPlan n true q=_
  rw [hm]
  unfold mrLift
  rw [hG];rfl,fun (st:QS) _=>⟨fun i hi=>hf st i hi,rfl⟩,fun (st:QS) m' hm' _=>hR st m' hm'⟩
theorem mf_draw {m0:MrSt} {N0:Nat} (hn:0<n) (hm:∀ st,mrPlan n true ⟨⟨me,c::rest,pa,ta,st⟩,m0⟩=mrLift n true ⟨⟨me,c::rest,pa,ta,st⟩,m0⟩) {Q:Option Nat→FrS (mrW n true pb tb pn nc)→Prop}
  (h0:∀ m,m<N0→Q none ⟨(⟨⟨me,rest,pa,ta,.load⟩,mrNext true ⟨me,c::rest,pa,ta,.load⟩ ⟨me,rest,pa,ta,.load⟩⟩:MrT),m⟩) (hQ:∀ t m,m<N0→Q (some t) ⟨(⟨⟨me,c::rest,pa,ta,.val t⟩,m0⟩:MrT),m⟩) :
  DrawT (mrF n pb tb pn nc mr r b h1 h2 h3 wg Cf) n (qw c) (qw c) ⟨(⟨⟨me,c::rest,pa,ta,.load⟩,m0⟩:MrT),N0⟩ Q:=by
 intro X hX
 have hc:qw c<2*n+5:=by cases c <;> simp [qw] <;> omega
 have key:∀ m,m≤N0→X ⟨(⟨⟨me,c::rest,pa,ta,.load⟩,m0⟩:MrT),m⟩:=by
  intro m
  induction m using Nat.strongRecOn with
  | _ m ih =>
  intro hle
  refine hX _ ?_
  show FrStep (mrW n true pb tb pn nc) (2*n+5) (qw c) _ _ _
  refine mf_lift (q:=⟨⟨me,c::rest,pa,ta,.load⟩,m0⟩) hc rfl (hm _) (fun st i _=>rfl) fun st m1 hm1=>?_
  have hmod:st.f (qw c)%n<n:=Nat.mod_lt _ hn
  rw [if_pos rfl]
  refine mf_lift (q:=⟨⟨me,c::rest,pa,ta,.seq (st.f (qw c))⟩,m0⟩) (by show 2+2*(st.f (qw c)%n)<2*n+5;omega) rfl (hm _) (fun st i _=>rfl) fun st' m2 hm2=>?_
  show if 9223372036854775808≤qd n st' (st.f (qw c)) (qw c) then Q none _ else if 0<qd n st' (st.f (qw c)) (qw c) then X _ else FrStep _ _ _ _ _ _
  by_cases g1:9223372036854775808≤qd n st' (st.f (qw c)) (qw c)
  ·rw [if_pos g1]
   have:=h0 m2 (by omega)
   dsimp only
   rw [if_pos g1,if_neg (by simp)]
   exact this
  ·rw [if_neg g1]
   by_cases g2:0<qd n st' (st.f (qw c)) (qw c)
   ·rw [if_pos g2]
    dsimp only
    rw [if_neg g1,if_pos g2,if_pos rfl]
    exact ih m2 (by omega) (by omega)
   ·rw [if_neg g2]
    dsimp only
    rw [if_neg g1,if_neg g2,if_pos rfl]
    refine mf_lift (q:=⟨⟨me,c::rest,pa,ta,.cas (st.f (qw c))⟩,m0⟩) hc rfl (hm _) (fun st2 i _=>?_) fun st2 m3 hm3=>?_
    ·by_cases g3:st2.f (qw c)=st.f (qw c)
     ·simp only [if_pos g3];rw [if_pos (show (mrW n true pb tb pn nc).wf st2 (qw c)=(mrW n true pb tb pn nc).wf st (qw c) from g3)];rfl
     ·simp only [if_neg g3];rw [if_neg (show ¬ (mrW n true pb tb pn nc).wf st2 (qw c)=(mrW n true pb tb pn nc).wf st (qw c) from g3)];rfl
    ·by_cases g3:st2.f (qw c)=st.f (qw c)
     ·simp only [if_pos g3]
      rw [show decide ((mrW n true pb tb pn nc).wf st2 (qw c)=(mrW n true pb tb pn nc).wf st (qw c))=true from decide_eq_true g3,if_pos rfl]
      exact hQ _ m3 (by omega)
     ·simp only [if_neg g3]
      rw [show decide ((mrW n true pb tb pn nc).wf st2 (qw c)=(mrW n true pb tb pn nc).wf st (qw c))=false from decide_eq_false g3,if_neg (by simp)]
      exact ih m3 (by omega) (by omega)
 exact key N0 (Nat.le_refl _)
theorem mf_beside {q:MrT} {m0 w:Nat} {mk:Int × Int} {q':MrT} (hw:w<2*n+5) (hp:mrPlan n true q=some (mk,fun s=>(mrUp s w,q'))) {R:QS→FrS (mrW n true pb tb pn nc)→Prop} (hR:∀ (st:QS) m',m'<m0→R st ⟨q',m'⟩) :
  FrStep (mrW n true pb tb pn nc) (2*n+5) w ⟨q,m0⟩ (fun st=>upd ((mrW n true pb tb pn nc).wf st) w (((mrW n true pb tb pn nc).wf st w+1)%18446744073709551616)) R :=
 ⟨hw,mk,_,hp,fun (st:QS) _=>⟨fun i hi=>rfl,rfl⟩,fun (st:QS) m' hm' _=>hR st m' hm'⟩
theorem mf_offer {N0:Nat} (hn:0<n) {G:Bool→FrS (mrW n true pb tb pn nc)→Prop} (g0:∀ m,m<N0→G false ⟨(⟨⟨me,rest,pa,ta,.load⟩,.c0⟩:MrT),m⟩) (g1:∀ m,m<N0→G true ⟨(⟨⟨me,rest,pa++[v],ta,.load⟩,.nw⟩:MrT),m⟩) :
  OfferT (mrF n pb tb pn nc mr r b h1 h2 h3 wg Cf) n v ⟨(⟨⟨me,some v::rest,pa,ta,.load⟩,.c0⟩:MrT),N0⟩ G:=by
 refine mf_beside (by omega) rfl fun st m1 hm1=>?_
 refine mf_draw (c:=some v) hn (fun _=>rfl) (fun m2 hm2=>?_) fun t m2 hm2=>?_
 ·show ite (false=true) _ _
  rw [if_neg (by decide)]
  have e:mrNext true ⟨me,some v::rest,pa,ta,.load⟩ ⟨me,rest,pa,ta,.load⟩=.c1:=if_pos rfl
  rw [e]
  exact mf_beside (by omega) rfl fun st m3 hm3=>g0 m3 (by omega)
 ·have hmod:t%n<n:=Nat.mod_lt _ hn
  refine mf_lift (q:=⟨⟨me,some v::rest,pa,ta,.val t⟩,.qu⟩) (by show 3+2*(t%n)<2*n+5;omega) rfl rfl (fun st i _=>rfl) fun st m3 hm3=>?_
  rw [if_pos rfl]
  refine mf_lift (q:=⟨⟨me,some v::rest,pa,ta,.rel t v⟩,.qu⟩) (by show 2+2*(t%n)<2*n+5;omega) rfl rfl (fun st i _=>rfl) fun st m4 hm4=>?_
  show ite (true=true) _ _
  rw [if_pos rfl]
  dsimp only
  rw [if_neg (by simp)]
  have e:mrNext true ⟨me,some v::rest,pa,ta,.rel t v⟩ ⟨me,rest,pa++[v],ta,.load⟩=.nw:=by simp [mrNext]
  rw [e]
  exact g1 m4 (by omega)
theorem mf_take {N0:Nat} (hn:0<n) {G:Option Nat→FrS (mrW n true pb tb pn nc)→Prop} (g0:∀ m,m<N0→G none ⟨(⟨⟨me,rest,pa,ta,.load⟩,.c0⟩:MrT),m⟩) (g1:∀ u m,m<N0→G (some u) ⟨(⟨⟨me,rest,pa,ta++[u],.load⟩,.c0⟩:MrT),m⟩) :
  MTakeT (mrF n pb tb pn nc mr r b h1 h2 h3 wg Cf) n ⟨(⟨⟨me,none::rest,pa,ta,.load⟩,.c0⟩:MrT),N0⟩ G:=by
 refine mf_draw (c:=none) hn (fun _=>rfl) (fun m2 hm2=>?_) fun t m2 hm2=>?_
 ·have e:mrNext true ⟨me,none::rest,pa,ta,.load⟩ ⟨me,rest,pa,ta,.load⟩=.c0:=if_pos rfl
  rw [e]
  exact g0 m2 hm2
 ·have hmod:t%n<n:=Nat.mod_lt _ hn
  refine mf_lift (q:=⟨⟨me,none::rest,pa,ta,.val t⟩,.c0⟩) (by show 3+2*(t%n)<2*n+5;omega) rfl rfl (fun st i _=>rfl) fun st m3 hm3=>?_
  rw [if_pos rfl]
  refine mf_lift (q:=⟨⟨me,none::rest,pa,ta,.rel t (st.f (3+2*(t%n)))⟩,.c0⟩) (by show 2+2*(t%n)<2*n+5;omega) rfl rfl (fun st i _=>rfl) fun st' m4 hm4=>?_
  dsimp only
  rw [if_neg (by simp)]
  have e:mrNext true ⟨me,none::rest,pa,ta,.rel t (st.f (3+2*(t%n)))⟩ ⟨me,rest,pa,ta++[st.f (3+2*(t%n))],.load⟩=.c2:=by simp [mrNext]
  rw [e]
  exact mf_beside (by omega) rfl fun st m5 hm5=>g1 _ m5 (by omega)
end
end
end Go.Proofs.Ytmkkanmkjfnpdaa
namespace Go.Proofs.Ytmkkanmkjfnpdaa
open Go Go.PB
attribute [local irreducible] Mo Bin Eql Tr Wo Ap Wle
attribute [local instance] Pass.of_no
section
abbrev qVal (k i:Nat):Nat:=k*4294967296+i
def qpCs (k W:Nat):List (Option Nat):=(List.range W).map fun i=>some (qVal k i)
def qtCs (T:Nat):List (Option Nat):=List.replicate T none
theorem qpCs_at {k W i:Nat} (h:i<W):(qpCs k W).drop i=some (qVal k i)::(qpCs k W).drop (i+1):=by
 have hl:i<(qpCs k W).length:=by simp [qpCs];exact h
 rw [List.drop_eq_getElem_cons hl]
 simp [qpCs]
theorem qpCs_end {k W:Nat}:(qpCs k W).drop W=[]:=List.drop_eq_nil_of_le (by simp [qpCs])
theorem qtCs_at {T i:Nat} (h:i<T):(qtCs T).drop i=none::(qtCs T).drop (i+1):=by
 unfold qtCs
 rw [List.drop_replicate,List.drop_replicate,show T-i=(T-(i+1))+1 by omega,List.replicate_succ]
theorem qtCs_end {T:Nat}:(qtCs T).drop T=[]:=List.drop_eq_nil_of_le (by simp [qtCs])
theorem qv_bits {k i:Nat} (hk:k<4) (hi:i<200):IntKind.u64.wrap (BitVec.ofInt IntKind.u64.bits ((k*4294967296:Nat):Int) ||| BitVec.ofInt IntKind.u64.bits ((i:Nat):Int)).toNat=((qVal k i:Nat):Int):=by
 have key:∀ k∈List.range 4,∀ i∈List.range 200,IntKind.u64.wrap (BitVec.ofInt IntKind.u64.bits ((k*4294967296:Nat):Int) ||| BitVec.ofInt IntKind.u64.bits ((i:Nat):Int)).toNat=((qVal k i:Nat):Int):=by decide +kernel
 exact key k (List.mem_range.2 hk) i (List.mem_range.2 hi)
abbrev mpF (xb kb qb pB:Nat):Value:=.func (.func 49) #[] #[.pointer (some ⟨xb,0,none⟩),.pointer (some ⟨kb,0,none⟩),.pointer (some ⟨qb,0,none⟩),.pointer (some ⟨pB,0,none⟩)]
abbrev mtF (yb mb qb tB kb:Nat):Value:=.func (.func 50) #[] #[.pointer (some ⟨yb,0,none⟩),.pointer (some ⟨mb,0,none⟩),.pointer (some ⟨qb,0,none⟩),.pointer (some ⟨tB,0,none⟩),.pointer (some ⟨kb,0,none⟩)]
structure MnRo (Ro:HProp) (yb mb qb pB tB mr pb tb pn tn:Nat) (tries most:Int):Prop where
 q:Rd [Ro] qb 0 (.pointer (some ⟨mr,0,none⟩))
 p:Rd [Ro] pB 0 (.slice (some ⟨pb,0,none⟩) pn pn)
 t:Rd [Ro] tB 0 (.slice (some ⟨tb,0,none⟩) tn tn)
 y:Rd [Ro] yb 3 (.int .i64 tries)
 m:Rd [Ro] mb 0 (.int .i64 most)
section
variable {B:Hand} [Lets B] {gv:Value} {S:Type} {x:S→B.X} {C0:S→HProp} {Ro:HProp} {F:List HProp} {xb yb mb kb qb pB tB mr pb tb pn tn k W T:Nat} {tries most:Int}
def moInv (gv:Value) (x:S→B.X) (C0:S→HProp) (I:Nat→List Nat→S→Prop) (Ro:HProp) (xb kb qb pB pb k W:Nat) (F:List HProp):PB.Inv (Nat × Value × List Nat × S) B.X where
 e:=fun i=>[(0,gv),(1,.pointer (some ⟨xb,0,none⟩)),(2,.pointer (some ⟨kb,0,none⟩)),(3,.pointer (some ⟨qb,0,none⟩)),(4,.pointer (some ⟨pB,0,none⟩)),(6,.int .i64 (i.1:Nat))]
 L:=fun i=>Ro::vec 1 i.2.1 (i.2.2.1.map num)::arr pb k [i.2.1]::arr kb 0 [.int .i64 (k:Nat)]::arr xb 0 [.int .i64 (W:Nat)]::C0 i.2.2.2::F
 x:=fun i=>x i.2.2.2
 ok:=fun i=>i.1≤W∧i.2.2.1.length≤i.1∧I i.1 i.2.2.1 i.2.2.2
set_option maxHeartbeats 4000000 in
theorem moffers_tr {C:List Nat→S→HProp} {I:Nat→List Nat→S→Prop} {s0:S} (hk:k<pn) (hpn:pn≤4) (hW2:W<200) (O:MnRo Ro yb mb qb pB tB mr pb tb pn tn tries most)
  (hop:∀ pa s R h,Star (C pa s::R) h→Star (mrLst pb tb pn k pa::C0 s::R) h) (hsh:∀ pa s R h,Star (mrLst pb tb pn k pa::C0 s::R) h→Star (C pa s::R) h)
  (hOf:∀ i pa s R,i<W→I i pa s→Tr Try.prog B 19 [.pointer (some ⟨mr,0,none⟩),gv,.int .u64 (qVal k i:Nat)] (C pa s::R) (x s) fun v L' x'=>∃ q s',I (i+1) (if q=true then pa++[qVal k i] else pa) s'∧v=.tuple #[.bool q,.int .i64 0]∧L'=C pa s'::R∧x'=x s') (h0:I 0 [] s0) :
  Tr Try.prog B 49 [gv,.pointer (some ⟨xb,0,none⟩),.pointer (some ⟨kb,0,none⟩),.pointer (some ⟨qb,0,none⟩),.pointer (some ⟨pB,0,none⟩)] (C [] s0::Ro::arr xb 0 [.int .i64 (W:Nat)]::arr kb 0 [.int .i64 (k:Nat)]::F) (x s0) fun v L' x'=>∃ pa s',I W pa s'∧v=.tuple #[]∧L'=C pa s'::Ro::F∧x'=x s':=by
 have cell:∀ sv,mrCell pb tb pn k sv=arr pb k [sv]:=fun sv=>by unfold mrCell;rw [if_pos hk,if_pos hk]
 have opn:∀ pa s R h,Star (C pa s::Ro::arr kb 0 [.int .i64 (k:Nat)]::arr xb 0 [.int .i64 (W:Nat)]::R) h→Star ((fun h=>∃ sv,all [vec 1 sv (pa.map num),arr pb k [sv]] h)::Ro::arr kb 0 [.int .i64 (k:Nat)]::arr xb 0 [.int .i64 (W:Nat)]::C0 s::R) h:=fun pa s R h st=>by
  have s1:=hop _ _ _ _ st
  have s2:Star (mrLst pb tb pn k pa::Ro::arr kb 0 [.int .i64 (k:Nat)]::arr xb 0 [.int .i64 (W:Nat)]::C0 s::R) h:=Ent.star (.take .here (.take (.there .here) (.take (.there .here) (.take (.there .here) (.take .here .refl))))) s1
  refine star_map s2 (fun h z=>?_) fun _ z=>z
  obtain ⟨sv,z⟩:=z
  rw [cell] at z
  refine ⟨sv,?_⟩
  have z1:Star [arr pb k [sv],vec 1 sv (pa.map num)] h:=z
  exact (star_swap z1:Star [vec 1 sv (pa.map num),arr pb k [sv]] h)
 have shut:∀ pa s R h sv,Star (Ro::vec 1 sv (pa.map num)::arr pb k [sv]::arr kb 0 [.int .i64 (k:Nat)]::arr xb 0 [.int .i64 (W:Nat)]::C0 s::R) h→Star (C pa s::Ro::arr kb 0 [.int .i64 (k:Nat)]::arr xb 0 [.int .i64 (W:Nat)]::R) h:=fun pa s R h sv st=>by
  refine hsh _ _ _ _ ?_
  have s1:Star (all [arr pb k [sv],vec 1 sv (pa.map num)]::Ro::arr kb 0 [.int .i64 (k:Nat)]::arr xb 0 [.int .i64 (W:Nat)]::C0 s::R) h:=star_shut (M:=[_,_]) (Ent.star (.take (.there (.there .here)) (.take (.there .here) (.take .here (.take .here (.take .here (.take .here .refl)))))) st)
  have s2:Star (mrLst pb tb pn k pa::Ro::arr kb 0 [.int .i64 (k:Nat)]::arr xb 0 [.int .i64 (W:Nat)]::C0 s::R) h:=star_map s1 (fun h z=>⟨sv,by rw [cell];exact z⟩) fun _ z=>z
  exact Ent.star (.take .here (.take (.there (.there (.there .here))) (.take .here (.take .here (.take .here .refl))))) s2
 refine Tr.post (R:=fun v L' x'=>∃ pa s',I W pa s'∧v=.tuple #[]∧x'=x s'∧∀ h,Star L' h→Star (C pa s'::Ro::F) h) ?_
  (by rintro v L' x' ⟨pa,s',a1,rfl,rfl,h2⟩;exact ⟨_,⟨pa,s',a1,rfl,rfl,rfl⟩,h2⟩)
 refine tr_star ((fun h=>∃ sv,all [vec 1 sv (([]:List Nat).map num),arr pb k [sv]] h)::Ro::arr kb 0 [.int .i64 (k:Nat)]::arr xb 0 [.int .i64 (W:Nat)]::C0 s0::F) (fun h st=>opn _ _ _ _ (Ent.star (.take .here (.take .here (.take (.there .here) (.take .here .refl)))) st)) ?_
 refine tr_of_body Try.func49 rfl Try.ntmps49 (by simp) fun um Q _ hQ=>?_
 simp only [argE,Nat.zero_add,Nat.reduceAdd]
 repeat (first | refine we_seq ?_ | (refine wR ?_;try simp only [oS]) | refine wo_nil ?_ | refine wA ?_ | refine we_block ?_)
 refine we_ex .here fun sv0=>?_
 refine we_star (Ro::vec 1 sv0 (([]:List Nat).map num)::arr pb k [sv0]::arr kb 0 [.int .i64 (k:Nat)]::arr xb 0 [.int .i64 (W:Nat)]::C0 s0::F) (fun h st=>Ent.star (.take (.there (.there .here)) (.take .here (.take .here (.take .here (.take .here (.take .here .refl)))))) (star_open (M:=[_,_]) st)) ?_
 refine we_loopN (moInv gv x C0 I Ro xb kb qb pB pb k W F) (fun i=>W-i.1) (0,sv0,[],s0) ⟨Nat.zero_le _,Nat.le_refl _,h0⟩ ⟨rfl,rfl,rfl,rfl,rfl,rfl,trivial⟩ .refl rfl ?_
 clear h0
 rintro ⟨i,sv,pa,s⟩ ⟨hi,hpa,hs⟩
 dsimp only at hi hpa hs
 simp only [moInv]
 have q1:∀ {c1 c2 c3 c4:HProp} {M:List HProp},Rd (c1::c2::c3::c4::arr xb 0 [.int .i64 (W:Nat)]::M) xb 0 (.int .i64 (W:Nat)):=.there (.there (.there (.there (Rd.row (k:=0) rfl rfl))))
 have q3:∀ {M:List HProp},Rd (Ro::M) qb 0 (.pointer (some ⟨mr,0,none⟩)):=Rd.of .here O.q
 have q4:∀ {c1 c2 c3:HProp} {M:List HProp},Rd (c1::c2::c3::arr kb 0 [.int .i64 (k:Nat)]::M) kb 0 (.int .i64 (k:Nat)):=.there (.there (.there (Rd.row (k:=0) rfl rfl)))
 have q5:∀ {M:List HProp},Rd (Ro::M) pB 0 (.slice (some ⟨pb,0,none⟩) pn pn):=Rd.of .here O.p
 by_cases hlt:i<W
 ·have w1:IntKind.u64.wrap ((k:Nat):Int)=((k:Nat):Int):=wrap_u64 (by omega) (by omega)
  have w2:IntKind.u64.wrap (((k:Nat):Int)*2^(min (32:Int).toNat IntKind.u64.bits))=((k*4294967296:Nat):Int):=by
   rw [show (2:Int)^(min (32:Int).toNat IntKind.u64.bits)=4294967296 from by decide,wrap_u64 (by omega) (by omega)];omega
  have w3:IntKind.u64.wrap ((i:Nat):Int)=((i:Nat):Int):=wrap_u64 (by omega) (by omega)
  have w4:=qv_bits (k:=k) (i:=i) (by omega) (by omega)
  repeat (first | (apply wo_po;apply mo_load;exact rfl;(first | exact q1 | exact q3 | exact q4);exact trivial) | (apply wo_po;apply mo_conv;exact rfl;(first | exact w1 | exact w3);exact gY) | (apply wo_po;apply mo_bin;exact rfl;exact rfl;apply bin_shl;omega;exact w2;exact trivial) | (apply wo_po;apply mo_bin;exact rfl;exact rfl;apply bin_or;exact w4;exact trivial) | refine wlssT ?_ | refine we_seq ?_ | (refine wR ?_;try simp only [oS]) | refine wo_nil ?_ | refine wM ?_ | refine wA ?_ | refine wT ?_ | refine we_skip ?_ | refine we_block ?_)
  refine wo_star (C pa s::Ro::arr kb 0 [.int .i64 (k:Nat)]::arr xb 0 [.int .i64 (W:Nat)]::F) (fun h st=>shut _ _ _ _ _ st) ?_
  refine wo_call (.cons rfl (.cons rfl (.cons rfl .nil))) trivial (hOf i pa s _ hlt hs) ?_
  rintro v1 L1 x1 ⟨q,s',hs',rfl,rfl,rfl⟩
  refine wo_star ((fun h=>∃ sv,all [vec 1 sv (pa.map num),arr pb k [sv]] h)::Ro::arr kb 0 [.int .i64 (k:Nat)]::arr xb 0 [.int .i64 (W:Nat)]::C0 s'::F) (fun h st=>opn _ _ _ _ st) ?_
  refine wo_ex .here fun sv=>?_
  refine wo_star (Ro::vec 1 sv (pa.map num)::arr pb k [sv]::arr kb 0 [.int .i64 (k:Nat)]::arr xb 0 [.int .i64 (W:Nat)]::C0 s'::F) (fun h st=>Ent.star (.take (.there (.there .here)) (.take .here (.take .here (.take .here (.take .here (.take .here .refl)))))) (star_open (M:=[_,_]) st)) ?_
  cases q with
  | false =>
   rw [if_neg (by decide)] at hs'
   repeat (first | refine we_seq ?_ | (refine wR ?_;try simp only [oS]) | refine wo_nil ?_ | refine wM ?_ | refine wA ?_ | (apply wo_po;apply mo_extract;exact rfl;exact rfl;exact gY) | refine wadd ?_ | refine wF ?_ | refine we_skip ?_)
   refine at_round (B:=B) (I:=moInv gv x C0 I Ro xb kb qb pB pb k W F) (R:=fun z=>W-z.1<W-i) (i+1,sv,pa,s') (by show W-(i+1)<W-i;omega) ⟨by show i+1≤W;omega,by show pa.length≤i+1;omega,hs'⟩ ⟨rfl,rfl,rfl,rfl,rfl,rfl,trivial⟩ .refl rfl
  | true =>
   rw [if_pos rfl] at hs'
   repeat (first | refine we_seq ?_ | (refine wR ?_;try simp only [oS]) | refine wo_nil ?_ | refine wM ?_ | refine wA ?_ | (apply wo_po;apply mo_extract;exact rfl;exact rfl;exact gY) | refine wT ?_)
   refine we_pure (of_has (.there .here) (vec_shape (by omega))) ?_
   rintro ⟨va,vn,vc,rfl,hvn,_⟩
   have hvn:vn=pa.length:=by simp at hvn;omega
   subst hvn
   let L0:List HProp:=Ro::vec 1 (.slice va pa.length vc) (pa.map num)::arr pb k [.slice va pa.length vc]::arr kb 0 [.int .i64 (k:Nat)]::arr xb 0 [.int .i64 (W:Nat)]::C0 s'::F
   have w0:Rd L0 pb (0+k) (.slice va pa.length vc):=.there (.there (Rd.row (k:=0) rfl (by omega)))
   have u4:Rd L0 kb 0 (.int .i64 (k:Nat)):=q4
   have u5:Rd L0 pB 0 (.slice (some ⟨pb,0,none⟩) pn pn):=q5
   refine we_draw (List.range' 0 11) (by kernel_rfl) ?_
   repeat (first | (apply ap_pure;exact rfl;exact rfl;exact trivial;intro L;apply mo_index1;exact rfl;exact rfl;omega) | (apply ap_read;exact rfl;exact rfl;exact trivial;apply mo_load;exact rfl;(first | exact w0 | exact u4 | exact u5)) | refine aM ?_)
   refine ap_loudR rfl rfl rfl rfl trivial (mo_buildSlice (sz:=1) (vs:=[num (qVal k i)]) rfl (.cons rfl .nil) rfl (by intro v hv;cases (List.mem_singleton.1 hv);exact rfl) (by omega)) ?_ ?_
   ·rintro v L' ⟨sb2,rfl,rfl⟩ p hp
    replace hp:=(List.mem_filter.1 hp).1
    simp only [List.mem_cons,List.not_mem_nil,or_false] at hp
    repeat (rcases hp with rfl | hp;· first | exact .inl rfl | exact .inr ⟨_,rfl,trivial,mo_load rfl (Rd.there (by first | exact w0 | exact u4 | exact u5))⟩)
   rintro v' L' ⟨sb2,rfl,rfl⟩
   refine ap_loudR rfl rfl rfl rfl trivial (mo_append (sz:=1) (new:=[num (qVal k i)]) rfl rfl rfl rfl (.there (.there .here)) rfl (.inr ⟨_,_,rfl,Rds.all .here⟩) (by intro v hv;cases (List.mem_singleton.1 hv);exact rfl) (by simp only [sliceLen];omega)) ?_ ?_
   ·rintro v L' rfl p hp
    replace hp:=(List.mem_filter.1 (List.mem_filter.1 hp).1).1
    simp only [List.mem_cons,List.not_mem_nil,or_false] at hp
    have v0:Rd (vec 1 v (pa.map num++[num (qVal k i)])::arr sb2 0 [num (qVal k i)]::Ro::arr pb k [.slice va pa.length vc]::arr kb 0 [.int .i64 (k:Nat)]::arr xb 0 [.int .i64 (W:Nat)]::C0 s'::F) pb (0+k) (.slice va pa.length vc):=.there (.there (.there (Rd.row (k:=0) rfl (by omega))))
    have v4:Rd (vec 1 v (pa.map num++[num (qVal k i)])::arr sb2 0 [num (qVal k i)]::Ro::arr pb k [.slice va pa.length vc]::arr kb 0 [.int .i64 (k:Nat)]::arr xb 0 [.int .i64 (W:Nat)]::C0 s'::F) kb 0 (.int .i64 (k:Nat)):=.there (.there (.there (.there (Rd.row (k:=0) rfl rfl))))
    have v5:Rd (vec 1 v (pa.map num++[num (qVal k i)])::arr sb2 0 [num (qVal k i)]::Ro::arr pb k [.slice va pa.length vc]::arr kb 0 [.int .i64 (k:Nat)]::arr xb 0 [.int .i64 (W:Nat)]::C0 s'::F) pB 0 (.slice (some ⟨pb,0,none⟩) pn pn):=.there (.there q5)
    repeat (rcases hp with rfl | hp;· first | exact .inl rfl | exact .inr ⟨_,rfl,trivial,mo_load rfl (by first | exact v0 | exact v4 | exact v5)⟩)
   rintro v' L' rfl
   refine ap_know (of_has .here (vec_shape (by omega))) ?_
   rintro ⟨wa,wn,wc,rfl,_⟩
   repeat (first | (apply ap_pure;exact rfl;exact rfl;exact trivial;intro L;apply mo_index1;exact rfl;exact rfl;omega))
   refine ap_loud rfl rfl rfl rfl rfl trivial (mo_store rfl rfl rfl (Wt.row (k:=0) (vs:=[.slice va pa.length vc]) (Nat.lt_succ_self 0) (by omega) (.there (.there (.there .here))))) ?_
   rintro v' L' ⟨rfl,rfl⟩
   refine ap_end ?_
   repeat (first | (refine wR ?_;try simp only [oS]) | refine wo_nil ?_ | refine wM ?_ | refine wA ?_ | refine wadd ?_)
   refine at_roundS (B:=B) (I:=moInv gv x C0 I Ro xb kb qb pB pb k W F) (R:=fun z=>W-z.1<W-i) (i+1,.slice wa wn wc,pa++[qVal k i],s') (by show W-(i+1)<W-i;omega) ⟨by show i+1≤W;omega,by show (pa++[qVal k i]).length≤i+1;simp;omega,hs'⟩ ⟨rfl,rfl,rfl,rfl,rfl,rfl,trivial⟩ (fun hp st=>?_) rfl
   show Star (Ro::vec 1 (.slice wa wn wc) ((pa++[qVal k i]).map num)::arr pb k [.slice wa wn wc]::arr kb 0 [.int .i64 (k:Nat)]::arr xb 0 [.int .i64 (W:Nat)]::C0 s'::F) hp
   rw [List.map_append]
   exact Ent.star (.take (.there (.there .here)) (.take .here (.take (.there .here) (.take (.there .here) (.drop .refl))))) st
 ·obtain rfl:i=W:=by omega
  repeat (first | (apply wo_po;apply mo_load;exact rfl;(first | exact q1 | exact q3 | exact q4);exact trivial) | refine wlssF ?_ | refine we_seq ?_ | (refine wR ?_;try simp only [oS]) | refine wo_nil ?_ | refine wM ?_ | refine wF ?_ | refine we_exit ?_)
  (first | refine or0 Try.func49 Try.results49 hQ ?_ | refine on0 Try.func49 Try.results49 hQ ?_)
  refine ⟨pa,s,hs,rfl,rfl,fun h st=>?_⟩
  have s1:=shut _ _ _ _ _ st
  exact Ent.star (.take .here (.take .here (.drop (.drop .refl)))) s1
def mtInv (gv:Value) (x:S→B.X) (C0:S→HProp) (I:Nat→List Nat→S→Prop) (Ro:HProp) (yb mb qb tB kb tb k T:Nat) (F:List HProp):PB.Inv (Nat × Value × List Nat × S) B.X where
 e:=fun i=>[(0,gv),(1,.pointer (some ⟨yb,0,none⟩)),(2,.pointer (some ⟨mb,0,none⟩)),(3,.pointer (some ⟨qb,0,none⟩)),(4,.pointer (some ⟨tB,0,none⟩)),(5,.pointer (some ⟨kb,0,none⟩)),(13,.int .i64 (T:Nat)),(14,.int .i64 (i.1:Nat))]
 L:=fun i=>Ro::vec 1 i.2.1 (i.2.2.1.map num)::arr tb k [i.2.1]::arr kb 0 [.int .i64 (k:Nat)]::C0 i.2.2.2::F
 x:=fun i=>x i.2.2.2
 ok:=fun i=>i.1≤T∧i.2.2.1.length≤i.1∧I i.1 i.2.2.1 i.2.2.2
set_option maxHeartbeats 4000000 in
theorem mtakes_tr {C:List Nat→S→HProp} {I:Nat→List Nat→S→Prop} {s0:S} (hk:k<tn) (htn:tn≤4) (hm:0<most∧most≤200) (hb:-9223372036854775808≤tries∧tries≤9223372036854775807) (hT:tries%most=T) (O:MnRo Ro yb mb qb pB tB mr pb tb pn tn tries most)
  (hop:∀ ta s R h,Star (C ta s::R) h→Star (mrLst pb tb pn (pn+k) ta::C0 s::R) h) (hsh:∀ ta s R h,Star (mrLst pb tb pn (pn+k) ta::C0 s::R) h→Star (C ta s::R) h)
  (hTk:∀ i ta s R,i<T→I i ta s→Tr Try.prog B 20 [.pointer (some ⟨mr,0,none⟩),gv] (C ta s::R) (x s) fun v L' x'=>∃ q s',I (i+1) (match q with | some v=>ta++[v] | none=>ta) s'∧q.getD 0<18446744073709551616∧v=.tuple #[.int .u64 (q.getD 0:Nat),.bool q.isSome,.int .i64 0]∧L'=C ta s'::R∧x'=x s') (h0:I 0 [] s0) :
  Tr Try.prog B 50 [gv,.pointer (some ⟨yb,0,none⟩),.pointer (some ⟨mb,0,none⟩),.pointer (some ⟨qb,0,none⟩),.pointer (some ⟨tB,0,none⟩),.pointer (some ⟨kb,0,none⟩)] (C [] s0::Ro::arr kb 0 [.int .i64 (k:Nat)]::F) (x s0) fun v L' x'=>∃ ta s',I T ta s'∧v=.tuple #[]∧L'=C ta s'::Ro::F∧x'=x s':=by
 have e1:=Int.emod_nonneg tries (by omega:most≠0)
 have e2:=Int.emod_lt_of_pos tries hm.1
 have hT2:T<200:=by omega
 have cell:∀ sv,mrCell pb tb pn (pn+k) sv=arr tb k [sv]:=fun sv=>by unfold mrCell;rw [if_neg (by omega),if_neg (by omega),Nat.add_sub_cancel_left]
 have opn:∀ pa s R h,Star (C pa s::Ro::arr kb 0 [.int .i64 (k:Nat)]::R) h→Star ((fun h=>∃ sv,all [vec 1 sv (pa.map num),arr tb k [sv]] h)::Ro::arr kb 0 [.int .i64 (k:Nat)]::C0 s::R) h:=fun pa s R h st=>by
  have s1:=hop _ _ _ _ st
  have s2:Star (mrLst pb tb pn (pn+k) pa::Ro::arr kb 0 [.int .i64 (k:Nat)]::C0 s::R) h:=Ent.star (.take .here (.take (.there .here) (.take (.there .here) (.take .here .refl)))) s1
  refine star_map s2 (fun h z=>?_) fun _ z=>z
  obtain ⟨sv,z⟩:=z
  rw [cell] at z
  refine ⟨sv,?_⟩
  have z1:Star [arr tb k [sv],vec 1 sv (pa.map num)] h:=z
  exact (star_swap z1:Star [vec 1 sv (pa.map num),arr tb k [sv]] h)
 have shut:∀ pa s R h sv,Star (Ro::vec 1 sv (pa.map num)::arr tb k [sv]::arr kb 0 [.int .i64 (k:Nat)]::C0 s::R) h→Star (C pa s::Ro::arr kb 0 [.int .i64 (k:Nat)]::R) h:=fun pa s R h sv st=>by
  refine hsh _ _ _ _ ?_
  have s1:Star (all [arr tb k [sv],vec 1 sv (pa.map num)]::Ro::arr kb 0 [.int .i64 (k:Nat)]::C0 s::R) h:=star_shut (M:=[_,_]) (Ent.star (.take (.there (.there .here)) (.take (.there .here) (.take .here (.take .here (.take .here .refl))))) st)
  have s2:Star (mrLst pb tb pn (pn+k) pa::Ro::arr kb 0 [.int .i64 (k:Nat)]::C0 s::R) h:=star_map s1 (fun h z=>⟨sv,by rw [cell];exact z⟩) fun _ z=>z
  exact Ent.star (.take .here (.take (.there (.there .here)) (.take .here (.take .here .refl)))) s2
 refine Tr.post (R:=fun v L' x'=>∃ pa s',I T pa s'∧v=.tuple #[]∧x'=x s'∧∀ h,Star L' h→Star (C pa s'::Ro::F) h) ?_
  (by rintro v L' x' ⟨pa,s',a1,rfl,rfl,h2⟩;exact ⟨_,⟨pa,s',a1,rfl,rfl,rfl⟩,h2⟩)
 refine tr_star ((fun h=>∃ sv,all [vec 1 sv (([]:List Nat).map num),arr tb k [sv]] h)::Ro::arr kb 0 [.int .i64 (k:Nat)]::C0 s0::F) (fun h st=>opn _ _ _ _ st) ?_
 have q1:∀ {c1:HProp} {M:List HProp},Rd (c1::Ro::M) yb (0+3) (.int .i64 tries):=.there (Rd.of .here O.y)
 have q2:∀ {c1:HProp} {M:List HProp},Rd (c1::Ro::M) mb 0 (.int .i64 most):=.there (Rd.of .here O.m)
 have q3:∀ {M:List HProp},Rd (Ro::M) qb 0 (.pointer (some ⟨mr,0,none⟩)):=Rd.of .here O.q
 have q4:∀ {c1 c2 c3:HProp} {M:List HProp},Rd (c1::c2::c3::arr kb 0 [.int .i64 (k:Nat)]::M) kb 0 (.int .i64 (k:Nat)):=.there (.there (.there (Rd.row (k:=0) rfl rfl)))
 have q5:∀ {M:List HProp},Rd (Ro::M) tB 0 (.slice (some ⟨tb,0,none⟩) tn tn):=Rd.of .here O.t
 refine tr_of_body Try.func50 rfl Try.ntmps50 (by simp) fun um Q _ hQ=>?_
 simp only [argE,Nat.zero_add,Nat.reduceAdd]
 repeat (first | (apply wo_po;apply mo_load;exact rfl;(first | exact q1 | exact q2);exact trivial) | refine we_seq ?_ | (refine wR ?_;try simp only [oS]) | refine wD ?_)
 refine wo_call (.cons rfl (.cons rfl .nil)) trivial (within_tr hb (by omega)) ?_
 rintro v1 L1 x1 ⟨rfl,rfl,rfl⟩
 rw [hT]
 repeat (first | refine wo_nil ?_ | refine wM ?_ | refine we_block ?_)
 refine we_ex .here fun sv0=>?_
 refine we_star (Ro::vec 1 sv0 (([]:List Nat).map num)::arr tb k [sv0]::arr kb 0 [.int .i64 (k:Nat)]::C0 s0::F) (fun h st=>Ent.star (.take (.there (.there .here)) (.take .here (.take .here (.take .here (.take .here .refl))))) (star_open (M:=[_,_]) st)) ?_
 refine we_loopN (mtInv gv x C0 I Ro yb mb qb tB kb tb k T F) (fun i=>T-i.1) (0,sv0,[],s0) ⟨Nat.zero_le _,Nat.le_refl _,h0⟩ ⟨rfl,rfl,rfl,rfl,rfl,rfl,rfl,rfl,trivial⟩ .refl rfl ?_
 clear h0
 rintro ⟨i,sv,ta,s⟩ ⟨hi,hta,hs⟩
 dsimp only at hi hta hs
 simp only [mtInv]
 by_cases hlt:i<T
 ·repeat (first | (apply wo_po;apply mo_load;exact rfl;(first | exact q3);exact trivial) | refine wlssT ?_ | refine we_seq ?_ | (refine wR ?_;try simp only [oS]) | refine wo_nil ?_ | refine wM ?_ | refine wT ?_ | refine we_skip ?_ | refine we_block ?_)
  refine wo_star (C ta s::Ro::arr kb 0 [.int .i64 (k:Nat)]::F) (fun h st=>shut _ _ _ _ _ st) ?_
  refine wo_call (.cons rfl (.cons rfl .nil)) trivial (hTk i ta s _ hlt hs) ?_
  rintro v1 L1 x1 ⟨q,s',hs',hq,rfl,rfl,rfl⟩
  refine wo_star ((fun h=>∃ sv,all [vec 1 sv (ta.map num),arr tb k [sv]] h)::Ro::arr kb 0 [.int .i64 (k:Nat)]::C0 s'::F) (fun h st=>opn _ _ _ _ st) ?_
  refine wo_ex .here fun sv=>?_
  refine wo_star (Ro::vec 1 sv (ta.map num)::arr tb k [sv]::arr kb 0 [.int .i64 (k:Nat)]::C0 s'::F) (fun h st=>Ent.star (.take (.there (.there .here)) (.take .here (.take .here (.take .here (.take .here .refl))))) (star_open (M:=[_,_]) st)) ?_
  cases q with
  | none =>
   repeat (first | refine we_seq ?_ | (refine wR ?_;try simp only [oS]) | refine wo_nil ?_ | refine wM ?_ | refine wA ?_ | (apply wo_po;apply mo_extract;exact rfl;exact rfl;exact gY) | refine wadd ?_ | refine wF ?_ | refine we_skip ?_)
   refine at_round (B:=B) (I:=mtInv gv x C0 I Ro yb mb qb tB kb tb k T F) (R:=fun z=>T-z.1<T-i) (i+1,sv,ta,s') (by show T-(i+1)<T-i;omega) ⟨by show i+1≤T;omega,by show ta.length≤i+1;omega,hs'⟩ ⟨rfl,rfl,rfl,rfl,rfl,rfl,rfl,rfl,trivial⟩ .refl rfl
  | some v0 =>
   repeat (first | refine we_seq ?_ | (refine wR ?_;try simp only [oS]) | refine wo_nil ?_ | refine wM ?_ | refine wA ?_ | (apply wo_po;apply mo_extract;exact rfl;exact rfl;exact gY) | refine wT ?_)
   refine we_pure (of_has (.there .here) (vec_shape (by omega))) ?_
   rintro ⟨va,vn,vc,rfl,hvn,_⟩
   have hvn:vn=ta.length:=by simp at hvn;omega
   subst hvn
   let L0:List HProp:=Ro::vec 1 (.slice va ta.length vc) (ta.map num)::arr tb k [.slice va ta.length vc]::arr kb 0 [.int .i64 (k:Nat)]::C0 s'::F
   have w0:Rd L0 tb (0+k) (.slice va ta.length vc):=.there (.there (Rd.row (k:=0) rfl (by omega)))
   have u4:Rd L0 kb 0 (.int .i64 (k:Nat)):=q4
   have u5:Rd L0 tB 0 (.slice (some ⟨tb,0,none⟩) tn tn):=q5
   refine we_draw (List.range' 0 11) (by kernel_rfl) ?_
   repeat (first | (apply ap_pure;exact rfl;exact rfl;exact trivial;intro L;apply mo_index1;exact rfl;exact rfl;omega) | (apply ap_read;exact rfl;exact rfl;exact trivial;apply mo_load;exact rfl;(first | exact w0 | exact u4 | exact u5)) | refine aM ?_)
   refine ap_loudR rfl rfl rfl rfl trivial (mo_buildSlice (sz:=1) (vs:=[num v0]) rfl (.cons rfl .nil) rfl (by intro v hv;cases (List.mem_singleton.1 hv);exact rfl) (by omega)) ?_ ?_
   ·rintro v L' ⟨sb2,rfl,rfl⟩ p hp
    replace hp:=(List.mem_filter.1 hp).1
    simp only [List.mem_cons,List.not_mem_nil,or_false] at hp
    repeat (rcases hp with rfl | hp;· first | exact .inl rfl | exact .inr ⟨_,rfl,trivial,mo_load rfl (Rd.there (by first | exact w0 | exact u4 | exact u5))⟩)
   rintro v' L' ⟨sb2,rfl,rfl⟩
   refine ap_loudR rfl rfl rfl rfl trivial (mo_append (sz:=1) (new:=[num v0]) rfl rfl rfl rfl (.there (.there .here)) rfl (.inr ⟨_,_,rfl,Rds.all .here⟩) (by intro v hv;cases (List.mem_singleton.1 hv);exact rfl) (by simp only [sliceLen];omega)) ?_ ?_
   ·rintro v L' rfl p hp
    replace hp:=(List.mem_filter.1 (List.mem_filter.1 hp).1).1
    simp only [List.mem_cons,List.not_mem_nil,or_false] at hp
    have v0':Rd (vec 1 v (ta.map num++[num v0])::arr sb2 0 [num v0]::Ro::arr tb k [.slice va ta.length vc]::arr kb 0 [.int .i64 (k:Nat)]::C0 s'::F) tb (0+k) (.slice va ta.length vc):=.there (.there (.there (Rd.row (k:=0) rfl (by omega))))
    have v4:Rd (vec 1 v (ta.map num++[num v0])::arr sb2 0 [num v0]::Ro::arr tb k [.slice va ta.length vc]::arr kb 0 [.int .i64 (k:Nat)]::C0 s'::F) kb 0 (.int .i64 (k:Nat)):=.there (.there (.there (.there (Rd.row (k:=0) rfl rfl))))
    have v5:Rd (vec 1 v (ta.map num++[num v0])::arr sb2 0 [num v0]::Ro::arr tb k [.slice va ta.length vc]::arr kb 0 [.int .i64 (k:Nat)]::C0 s'::F) tB 0 (.slice (some ⟨tb,0,none⟩) tn tn):=.there (.there q5)
    repeat (rcases hp with rfl | hp;· first | exact .inl rfl | exact .inr ⟨_,rfl,trivial,mo_load rfl (by first | exact v0' | exact v4 | exact v5)⟩)
   rintro v' L' rfl
   refine ap_know (of_has .here (vec_shape (by omega))) ?_
   rintro ⟨wa,wn,wc,rfl,_⟩
   repeat (first | (apply ap_pure;exact rfl;exact rfl;exact trivial;intro L;apply mo_index1;exact rfl;exact rfl;omega))
   refine ap_loud rfl rfl rfl rfl rfl trivial (mo_store rfl rfl rfl (Wt.row (k:=0) (vs:=[.slice va ta.length vc]) (Nat.lt_succ_self 0) (by omega) (.there (.there (.there .here))))) ?_
   rintro v' L' ⟨rfl,rfl⟩
   refine ap_end ?_
   repeat (first | (refine wR ?_;try simp only [oS]) | refine wo_nil ?_ | refine wM ?_ | refine wadd ?_)
   refine at_roundS (B:=B) (I:=mtInv gv x C0 I Ro yb mb qb tB kb tb k T F) (R:=fun z=>T-z.1<T-i) (i+1,.slice wa wn wc,ta++[v0],s') (by show T-(i+1)<T-i;omega) ⟨by show i+1≤T;omega,by show (ta++[v0]).length≤i+1;simp;omega,hs'⟩ ⟨rfl,rfl,rfl,rfl,rfl,rfl,rfl,rfl,trivial⟩ (fun hp st=>?_) rfl
   show Star (Ro::vec 1 (.slice wa wn wc) ((ta++[v0]).map num)::arr tb k [.slice wa wn wc]::arr kb 0 [.int .i64 (k:Nat)]::C0 s'::F) hp
   rw [List.map_append]
   exact Ent.star (.take (.there (.there .here)) (.take .here (.take (.there .here) (.take (.there .here) (.drop .refl))))) st
 ·obtain rfl:i=T:=by omega
  repeat (first | refine wlssF ?_ | refine we_seq ?_ | (refine wR ?_;try simp only [oS]) | refine wo_nil ?_ | refine wF ?_ | refine we_exit ?_)
  (first | refine or0 Try.func50 Try.results50 hQ ?_ | refine on0 Try.func50 Try.results50 hQ ?_)
  refine ⟨ta,s,hs,rfl,rfl,fun h st=>?_⟩
  have s1:=shut _ _ _ _ _ st
  exact Ent.star (.take .here (.take .here (.drop .refl))) s1
end
end
section
section
variable {n j pb tb pn nc mr r b:Nat} {h1:r≠b} {h2:mr≠r} {h3:mr≠b} {wg:Nat} {Ro p:HProp} {L F:List HProp} {me v m0:Nat} {pa ta:List Nat} {rest:List (Option Nat)}
theorem news_try {s:QS} {rr:Hp} (hU:((mrW n true pb tb pn nc).g (maddr mr r b n) (2*n+5) []).U s rr) (w:Value):∃ (cap:Nat) (buf:Array Value) (sn rn:Nat) (tm:Bool),rr.obj nc=some (.chan cap buf false sn rn tm) ∧
  (buf.size<cap→((mrW n true pb tb pn nc).g (maddr mr r b n) (2*n+5) []).U s (rr.setObj nc (.chan cap (buf.push w) false (sn+1) rn tm)))∧(cap≤buf.size→((mrW n true pb tb pn nc).g (maddr mr r b n) (2*n+5) []).U s rr):=by
 have s1:Star [newsC nc,wds (maddr mr r b n) (2*n+5) [] s.f] rr:=star_swap (hU:Star [wds (maddr mr r b n) (2*n+5) [] s.f,newsC nc] rr)
 obtain ⟨h1,h2,sp,⟨y,hc⟩,hL⟩:=s1
 have s2:Star (chC nc 1 y.1 y.2.1 y.2.2::[wds (maddr mr r b n) (2*n+5) [] s.f]) rr:=⟨h1,h2,sp,hc,hL⟩
 obtain ⟨e1,e2⟩:=star_setObj (o':=.chan 1 (y.1.push w) false (y.2.1+1) y.2.2 false) s2
 refine ⟨1,y.1,y.2.1,y.2.2,false,e1,fun _=>?_,fun _=>hU⟩
 have s3:Star [newsC nc,wds (maddr mr r b n) (2*n+5) [] s.f] (rr.setObj nc (.chan 1 (y.1.push w) false (y.2.1+1) y.2.2 false)):=star_map e2 (fun h z=>⟨(_,_,_),z⟩) fun _ z=>z
 exact star_swap s3
theorem mofferF_tr (h1:r≠b) (h2:mr≠r) (h3:mr≠b) (hn:n=2^j) (hj:1≤j∧j≤10) (O:MrRo Ro mr r b n nc) (hv:v<18446744073709551616) (hh:Has L (all [p,Ro]) F) :
  Tr Try.prog fH 19 [.pointer (some ⟨mr,0,none⟩),.nilIface,.int .u64 (v:Nat)] L (frX (mrW n true pb tb pn nc) (maddr mr r b n) (2*n+5) [] wg ⟨(⟨⟨me,some v::rest,pa,ta,.load⟩,.c0⟩:MrT),m0⟩) fun w L' x' =>
   ∃ q s',s'.q=(⟨⟨me,rest,if q=true then pa++[v] else pa,ta,.load⟩,.c0⟩:MrT)∧w=.tuple #[.bool q,.int .i64 0]∧L'=all [p,Ro]::F∧x'=frX (mrW n true pb tb pn nc) (maddr mr r b n) (2*n+5) [] wg s':=by
 have hpos:0<n:=by rw [hn];exact Nat.two_pow_pos j
 let A:=mrF n pb tb pn nc mr r b h1 h2 h3 wg (all [p,Ro])
 have R:MirAt A mr r b n j nc:=mrF_at hn hj.2 O
 have hs:OfferT A n v ⟨(⟨⟨me,some v::rest,pa,ta,.load⟩,.c0⟩:MrT),m0⟩ (fun q s'=>s'.q=if q=true then (⟨⟨me,rest,pa++[v],ta,.load⟩,.nw⟩:MrT) else (⟨⟨me,rest,pa,ta,.load⟩,.c0⟩:MrT)) :=
  mf_offer hpos (fun m _=>(if_neg (by decide)).symm) fun m _=>(if_pos rfl).symm
 show Tr Try.prog fH _ _ L (A.x ⟨(⟨⟨me,some v::rest,pa,ta,.load⟩,.c0⟩:MrT),m0⟩) _
 have hh:Has L (A.C ⟨(⟨⟨me,some v::rest,pa,ta,.load⟩,.c0⟩:MrT),m0⟩) F:=hh
 refine tr_of_body Try.func19 rfl Try.ntmps19 (by simp) fun um Q _ hQ=>?_
 simp only [argE,Nat.zero_add,Nat.reduceAdd]
 repeat (first | refine we_seq ?_ | (refine wR ?_;try simp only [oS]) | refine wo_nil ?_ | refine wM ?_ | refine wA ?_)
 refine wo_call (.cons rfl .nil) trivial (mthere_tr R hh) ?_
 rintro v1 L1 x1 ⟨rfl,rfl,rfl⟩
 repeat (first | refine we_seq ?_ | (refine wR ?_;try simp only [oS]) | refine wo_nil ?_ | refine wM ?_ | (apply wo_po;apply mo_not;exact rfl;exact gY) | refine wF ?_ | refine we_skip ?_)
 refine wo_call (.cons rfl (.cons rfl (.cons rfl .nil))) trivial (mcount_tr (j:=0) R (by omega) hs hh) ?_
 rintro v1 L1 x1 ⟨s1,h1',rfl,rfl,rfl⟩
 have hr:=Rd.of (L:=A.C s1::F) .here (R.hq s1)
 repeat (first | (apply wo_po;apply mo_load;exact rfl;exact hr;exact gY) | refine we_seq ?_ | (refine wR ?_;try simp only [oS]) | refine wo_nil ?_ | refine wM ?_ | refine wN ?_ | refine wD ?_)
 refine wo_call (.cons rfl (.cons rfl (.cons rfl .nil))) trivial (put_tr R.q hv h1' .here) ?_
 rintro v1 L1 x1 ⟨q,s2,h2',rfl,rfl,rfl⟩
 cases q with
 | false =>
  rw [if_neg (by decide)] at h2'
  repeat (first | refine we_seq ?_ | (refine wR ?_;try simp only [oS]) | refine wo_nil ?_ | refine wM ?_ | refine wA ?_ | (apply wo_po;apply mo_extract;exact rfl;exact rfl;exact gY) | (apply wo_po;apply mo_not;exact rfl;exact gY) | refine wT ?_)
  refine wo_call (.cons rfl (.cons rfl (.cons rfl .nil))) trivial (mcount_tr (j:=1) R (by omega) h2' .here) ?_
  rintro v1 L1 x1 ⟨s3,h3',rfl,rfl,rfl⟩
  repeat (first | refine we_seq ?_ | (refine wR ?_;try simp only [oS]) | refine wo_nil ?_ | refine wM ?_ | refine wA ?_ | refine we_ret ?_)
  (first | refine or2 Try.func19 Try.results19 hQ rfl rfl ?_ | refine on2 Try.func19 Try.results19 hQ rfl rfl ?_)
  exact ⟨false,s3,h3',rfl,rfl,rfl⟩
 | true =>
  rw [if_pos rfl] at h2'
  obtain ⟨q2,n2⟩:=s2
  have hq2:q2=(⟨⟨me,rest,pa++[v],ta,.load⟩,.nw⟩:MrT):=h2'
  subst hq2
  have hr2:=Rd.of (L:=A.C ⟨(⟨⟨me,rest,pa++[v],ta,.load⟩,.nw⟩:MrT),n2⟩::F) .here (R.hc _)
  repeat (first | (apply wo_po;apply mo_load;exact rfl;exact hr2;exact gY) | (apply wo_po;apply mo_build (pv:=[]);exact rfl;exact .nil;exact rfl;exact trivial) | refine we_seq ?_ | (refine wR ?_;try simp only [oS]) | refine wo_nil ?_ | refine wM ?_ | refine wA ?_ | refine wN ?_ | refine wD ?_ | (apply wo_po;apply mo_extract;exact rfl;exact rfl;exact gY) | (apply wo_po;apply mo_not;exact rfl;exact gY) | refine wF ?_ | refine we_skip ?_)
  refine wo_tryF (g:=(mrW n true pb tb pn nc).g (maddr mr r b n) (2*n+5) []) (c:=nc) (q:=(⟨⟨me,rest,pa++[v],ta,.load⟩,.nw⟩:MrT)) (F:=(fun st:QS=>(st,(⟨⟨me,rest,pa++[v],ta,.load⟩,.c0⟩:MrT)):QS→QS × MrT)) rfl rfl rfl trivial (fun st rr _ hU=>news_try hU _) ?_
  intro st i m' hm' _ hi
  rcases hi with rfl | rfl
  ·repeat (first | refine we_seq ?_ | (refine wR ?_;try simp only [oS]) | refine wo_nil ?_ | refine wA ?_ | (apply wo_po;apply mo_extract;exact rfl;exact rfl;exact gY) | (apply wo_po;apply mo_bin;exact rfl;exact rfl;exact bin_eql;exact gY) | refine wT ?_ | refine we_ret ?_ | refine we_skip ?_ | refine we_block ?_)
   (first | refine or2 Try.func19 Try.results19 hQ rfl rfl ?_ | refine on2 Try.func19 Try.results19 hQ rfl rfl ?_)
   exact ⟨true,⟨(⟨⟨me,rest,pa++[v],ta,.load⟩,.c0⟩:MrT),m'⟩,rfl,rfl,rfl,rfl⟩
  ·repeat (first | refine we_seq ?_ | (refine wR ?_;try simp only [oS]) | refine wo_nil ?_ | refine wA ?_ | (apply wo_po;apply mo_extract;exact rfl;exact rfl;exact gY) | (apply wo_po;apply mo_bin;exact rfl;exact rfl;exact bin_eql;exact gY) | refine wF ?_ | refine we_ret ?_ | refine we_skip ?_ | refine we_block ?_)
   (first | refine or2 Try.func19 Try.results19 hQ rfl rfl ?_ | refine on2 Try.func19 Try.results19 hQ rfl rfl ?_)
   exact ⟨true,⟨(⟨⟨me,rest,pa++[v],ta,.load⟩,.c0⟩:MrT),m'⟩,rfl,rfl,rfl,rfl⟩
end
theorem f_op {p Ro:HProp} {R:List HProp} {h:Hp} (st:Star (all [p,Ro]::R) h):Star (p::Ro::R) h:=star_open (M:=[_,_]) st
theorem f_sh {p Ro:HProp} {R:List HProp} {h:Hp} (st:Star (p::Ro::R) h):Star (all [p,Ro]::R) h:=star_shut (M:=[_,_]) st
def mrM (Ro:HProp) (cb i:Nat) (bx:HProp):HProp:=all [all [Ro,bx],arr cb i [.slice none 0 0]]
def mrBx (xb kb W k:Nat):HProp:=all [arr xb 0 [.int .i64 (W:Nat)],arr kb 0 [.int .i64 (k:Nat)]]
theorem mrM_open {Ro bx:HProp} {cb i pb tb pn me:Nat} (hd:Dup Ro) (hc:∀ sv,mrCell pb tb pn me sv=arr cb i [sv]) {R:List HProp} {h:Hp} (st:Star (mrM Ro cb i bx::R) h):Star (mrLst pb tb pn me []::Ro::Ro::bx::R) h:=by
 have s1:Star (all [Ro,bx]::arr cb i [.slice none 0 0]::R) h:=star_open (M:=[_,_]) st
 have s2:Star (Ro::bx::arr cb i [.slice none 0 0]::R) h:=star_open (M:=[_,_]) s1
 have s3:=hd _ _ s2
 have s4:Star (vec 1 (.slice none 0 0) (([]:List Nat).map num)::Ro::Ro::bx::arr cb i [.slice none 0 0]::R) h:=vec_nil s3
 have s5:Star (all [arr cb i [.slice none 0 0],vec 1 (.slice none 0 0) (([]:List Nat).map num)]::Ro::Ro::bx::R) h:=star_shut (M:=[_,_]) (Ent.star (.take (.there (.there (.there (.there .here)))) (.take .here (.take .here (.take .here (.take .here .refl))))) s4)
 exact star_map s5 (fun h z=>⟨_,by rw [hc];exact z⟩) fun _ z=>z
section
variable {n j pb tb pn tn nc mr r b:Nat} {h1:r≠b} {h2:mr≠r} {h3:mr≠b} {Ro:HProp} {xb yb mb kb qb pB tB k W T:Nat} {tries most:Int}
abbrev mrGm (n:Nat) (fr:Bool) (pb tb pn nc mr r b:Nat):Game:=(mrW n fr pb tb pn nc).g (maddr mr r b n) (2*n+5) []
theorem mP_free {N:Nat} (hne:r≠b) (hm1:mr≠r) (hm2:mr≠b) (hn:n=2^j) (hj:1≤j∧j≤10) (hk:k<pn) (hpn:pn≤4) (hW:W<200) (O:MnRo Ro yb mb qb pB tB mr pb tb pn tn tries most) (OM:MrRo Ro mr r b n nc) (hd:Dup Ro) :
  ThrF (mrGm n true pb tb pn nc mr r b) N ⟨mpF xb kb qb pB,(⟨⟨k,qpCs k W,[],[],.load⟩,.c0⟩:MrT),mrM Ro pb k (mrBx xb kb W k)⟩ where
 run:=by
  refine ⟨_,_,_,rfl,inferInstance,fun wg F=>?_⟩
  refine tr_star (all [mrLst pb tb pn k [],Ro]::Ro::arr xb 0 [.int .i64 (W:Nat)]::arr kb 0 [.int .i64 (k:Nat)]::F) (fun hp st=>?_) ?_
  ·have s3:=mrM_open (pb:=pb) (tb:=tb) (pn:=pn) (me:=k) hd (fun sv=>by unfold mrCell;rw [if_pos hk,if_pos hk]) st
   have s4:Star (all [mrLst pb tb pn k [],Ro]::Ro::mrBx xb kb W k::F) hp:=star_shut (M:=[_,_]) s3
   have s5:Star (mrBx xb kb W k::all [mrLst pb tb pn k [],Ro]::Ro::F) hp:=Ent.star (.take (.there (.there .here)) (.take .here (.take .here .refl))) s4
   have s6:Star (arr xb 0 [.int .i64 (W:Nat)]::arr kb 0 [.int .i64 (k:Nat)]::all [mrLst pb tb pn k [],Ro]::Ro::F) hp:=star_open (M:=[_,_]) s5
   exact Ent.star (.take (.there (.there .here)) (.take (.there (.there .here)) (.take .here (.take .here .refl)))) s6
  refine (moffers_tr (B:=fH) (S:=FrS (mrW n true pb tb pn nc)) (x:=fun s=>frX (mrW n true pb tb pn nc) (maddr mr r b n) (2*n+5) [] wg s) (C:=fun pa _=>all [mrLst pb tb pn k pa,Ro]) (C0:=fun _=>Ro) (I:=fun i pa s=>s.q=(⟨⟨k,(qpCs k W).drop i,pa,[],.load⟩,.c0⟩:MrT)) (s0:=⟨(⟨⟨k,qpCs k W,[],[],.load⟩,.c0⟩:MrT),N⟩) hk hpn hW O (fun pa s R h st=>f_op st) (fun pa s R h st=>f_sh st) (fun i pa s R hi hs=>?_) rfl).mono ?_
  ·rw [qpCs_at hi] at hs
   obtain ⟨sq,sn⟩:=s
   simp only at hs;subst hs
   refine (mofferF_tr (h1:=hne) (h2:=hm1) (h3:=hm2) hn hj OM (v:=qVal k i) (by unfold qVal;omega) .here).mono ?_
   rintro v L' x' ⟨q,s',a1,a2,a3,a4⟩
   exact ⟨q,s',a1,a2,a3,a4⟩
  ·rintro v L' x' ⟨pa,s',hs',rfl,rfl,rfl⟩
   rw [qpCs_end] at hs'
   refine ⟨s'.q,s'.n,rfl,?_,fun hp st=>?_⟩
   ·show mrPlan n true s'.q=none
    rw [hs'];rfl
   ·show Star (all [mrLst pb tb pn _ (mrOut pn s'.q)]::F) hp
    rw [hs',show mrOut pn (⟨⟨k,[],pa,[],.load⟩,.c0⟩:MrT)=pa from if_pos hk]
    exact star_shut (M:=[_]) (Ent.star (.take .here (.drop (.drop .refl))) (f_op st))
theorem mT_free {N:Nat} (hne:r≠b) (hm1:mr≠r) (hm2:mr≠b) (hn:n=2^j) (hj:1≤j∧j≤10) (hk:k<tn) (htn:tn≤4) (hm:0<most∧most≤200) (hb:-9223372036854775808≤tries∧tries≤9223372036854775807) (hT:tries%most=T) (O:MnRo Ro yb mb qb pB tB mr pb tb pn tn tries most) (OM:MrRo Ro mr r b n nc) (hd:Dup Ro) :
  ThrF (mrGm n true pb tb pn nc mr r b) N ⟨mtF yb mb qb tB kb,(⟨⟨pn+k,qtCs T,[],[],.load⟩,.c0⟩:MrT),mrM Ro tb k (arr kb 0 [.int .i64 (k:Nat)])⟩ where
 run:=by
  have hpos:0<n:=by rw [hn];exact Nat.two_pow_pos j
  have hnk:¬ pn+k<pn:=by omega
  refine ⟨_,_,_,rfl,inferInstance,fun wg F=>?_⟩
  refine tr_star (all [mrLst pb tb pn (pn+k) [],Ro]::Ro::arr kb 0 [.int .i64 (k:Nat)]::F) (fun hp st=>?_) ?_
  ·have s3:=mrM_open (pb:=pb) (tb:=tb) (pn:=pn) (me:=pn+k) hd (fun sv=>by unfold mrCell;rw [if_neg hnk,if_neg hnk,Nat.add_sub_cancel_left]) st
   exact star_shut (M:=[_,_]) s3
  refine (mtakes_tr (B:=fH) (S:=FrS (mrW n true pb tb pn nc)) (x:=fun s=>frX (mrW n true pb tb pn nc) (maddr mr r b n) (2*n+5) [] wg s) (C:=fun ta _=>all [mrLst pb tb pn (pn+k) ta,Ro]) (C0:=fun _=>Ro) (I:=fun i ta s=>s.q=(⟨⟨pn+k,(qtCs T).drop i,[],ta,.load⟩,.c0⟩:MrT)) (s0:=⟨(⟨⟨pn+k,qtCs T,[],[],.load⟩,.c0⟩:MrT),N⟩) hk htn hm hb hT O (fun pa s R h st=>f_op st) (fun pa s R h st=>f_sh st) (fun i ta s R hi hs=>?_) rfl).mono ?_
  ·rw [qtCs_at hi] at hs
   obtain ⟨sq,sn⟩:=s
   simp only at hs;subst hs
   refine (mtake_tr (A:=mrF n pb tb pn nc mr r b hne hm1 hm2 wg (all [mrLst pb tb pn (pn+k) ta,Ro])) (mrF_at hn hj.2 OM) (mf_take (G:=fun q s'=>s'.q=(⟨⟨pn+k,(qtCs T).drop (i+1),[],(match q with | some v=>ta++[v] | none=>ta),.load⟩,.c0⟩:MrT)) hpos (fun m _=>rfl) fun u m _=>rfl) .here).mono ?_
   rintro v L' x' ⟨q,s',a1,a2,a3,a4,a5⟩
   exact ⟨q,s',a1,a2,a3,a4,a5⟩
  ·rintro v L' x' ⟨ta,s',hs',rfl,rfl,rfl⟩
   rw [qtCs_end] at hs'
   refine ⟨s'.q,s'.n,rfl,?_,fun hp st=>?_⟩
   ·show mrPlan n true s'.q=none
    rw [hs'];rfl
   ·show Star (all [mrLst pb tb pn _ (mrOut pn s'.q)]::F) hp
    rw [hs',show mrOut pn (⟨⟨pn+k,[],[],ta,.load⟩,.c0⟩:MrT)=ta from if_neg hnk]
    exact star_shut (M:=[_]) (Ent.star (.take .here (.drop (.drop .refl))) (f_op st))
end
end
end Go.Proofs.Ytmkkanmkjfnpdaa
namespace Go.Proofs.Ytmkkanmkjfnpdaa
open Go Go.PB
attribute [local irreducible] Mo Bin Eql Tr Wo Ap Wle
section
def HdrOk (L:List HProp) (vs:List Value) (ls:List (List Nat)):Prop:=vs.length=ls.length∧∀ (i:Nat) l,ls[i]?=some l→∃ a c,vs[i]?=some (.slice a l.length c)∧RdsO L a l.length (l.map num)
theorem mGet_put {k k':Int} {v:Value}:∀ {l:List (Int × Value)},mGet (mPut l k v) k'=if k'=k then some v else mGet l k'
 | []=>by unfold mPut mGet;rfl
 | e::l=>by
  unfold mPut
  by_cases h:k=e.1
  ·rw [if_pos h]
   unfold mGet
   by_cases h2:k'=k
   ·rw [if_pos h2,if_pos h2]
   ·rw [if_neg h2,if_neg h2,if_neg (fun h3=>h2 (h3.trans h.symm))]
  ·rw [if_neg h]
   unfold mGet
   by_cases h2:k'=e.1
   ·rw [if_pos h2,if_neg (fun h3=>h (h3.symm.trans h2)),if_pos h2]
   ·rw [if_neg h2,if_neg h2];exact mGet_put
section
variable {P:Program} {e:Env} {ty:TypeId} {L F:List HProp} {ki:IntKind} {b:Nat} {l:List (Int × Value)}
theorem mo_look2 {t key el:Nat} {kk:IntKind} {zv u:Value} {m ko:Operand} {k:Int} [p:Und P t (.map key el)] [pk:InT P key kk] [z:Zer P el zv] (hG:mGet l k=some u) (hm:ev e m=some (.map (some b))) (hk:ev e ko=some (.int ki k)) (hh:Has L (mapC ki b l) F) :
  Mo P e (.lookup t m ko true) ty L fun v' L'=>v'=.tuple #[u,.bool true]∧L'=L:=by
 have h:=mo_lookup2 (P:=P) (e:=e) (ty:=ty) (L:=L) (F:=F) (t:=t) (ki:=ki) (b:=b) (l:=l) (m:=m) (ko:=ko) (k:=k) (el:=el) (key:=key) (kk:=kk) (zv:=zv) hm hk hh
 rw [hG] at h
 exact h
theorem mo_look1 {t key el:Nat} {kk:IntKind} {zv u:Value} {m ko:Operand} {k:Int} [p:Und P t (.map key el)] [pk:InT P key kk] [z:Zer P el zv] (hG:mGet l k=some u∨(mGet l k=none∧zv=u)) (hm:ev e m=some (.map (some b))) (hk:ev e ko=some (.int ki k)) (hh:Has L (mapC ki b l) F) :
  Mo P e (.lookup t m ko false) ty L fun v' L'=>v'=u∧L'=L:=by
 have h:=mo_lookup1 (P:=P) (e:=e) (ty:=ty) (L:=L) (F:=F) (t:=t) (ki:=ki) (b:=b) (l:=l) (m:=m) (ko:=ko) (k:=k) (el:=el) (key:=key) (kk:=kk) (zv:=zv) hm hk hh
 rcases hG with hG | ⟨hG,rfl⟩ <;> rw [hG] at h <;> exact h
end
section
variable {B:Hand} [Lets B] {L:List HProp} {x:B.X}
theorem prs_nil {qs:List (List Nat)}:prs (qs++[[]])=prs qs:=by rw [prs_snoc];simp [ents]
theorem prs_len {qs:List (List Nat)}:(prs qs).length=qs.flatten.length:=by rw [← List.length_map (f:=(·.1)),prs_fst]
theorem flat_split {ps:List (List Nat)} {l:List Nat} {k i v:Nat} (hk:ps[k]?=some l) (hi:l[i]?=some v):ps.flatten=((ps.take k).flatten++l.take i)++v::(l.drop (i+1)++(ps.drop (k+1)).flatten):=by
 obtain ⟨h1,e1⟩:=List.getElem?_eq_some_iff.1 hk
 obtain ⟨h2,e2⟩:=List.getElem?_eq_some_iff.1 hi
 have d1:ps.drop k=l::ps.drop (k+1):=by rw [List.drop_eq_getElem_cons h1,e1]
 have d2:l.drop i=v::l.drop (i+1):=by rw [List.drop_eq_getElem_cons h2,e2]
 conv=>lhs;rw [← List.take_append_drop k ps,List.flatten_append,d1,List.flatten_cons,← List.take_append_drop i l,d2]
 simp
theorem flat_len {ps:List (List Nat)} {l:List Nat} {k i:Nat} (hk:ps[k]?=some l) (hi:i≤l.length):(prs (ps.take k++[l.take i])).length≤ps.flatten.length:=by
 obtain ⟨h1,e1⟩:=List.getElem?_eq_some_iff.1 hk
 have d1:ps.drop k=l::ps.drop (k+1):=by rw [List.drop_eq_getElem_cons h1,e1]
 rw [prs_len]
 conv=>rhs;rw [← List.take_append_drop k ps,List.flatten_append,d1,List.flatten_cons]
 simp only [List.flatten_append,List.length_append,List.flatten_cons,List.flatten_nil,List.append_nil,List.length_take]
 omega
theorem row_len {ps:List (List Nat)} {l:List Nat} {k:Nat} (hk:ps[k]?=some l):l.length≤ps.flatten.length:=by
 have:=flat_len hk (Nat.le_refl l.length)
 rw [prs_len] at this
 simp only [List.flatten_append,List.length_append,List.flatten_cons,List.flatten_nil,List.append_nil,List.take_length] at this
 omega
theorem flat_new {ps:List (List Nat)} {l:List Nat} {k i v:Nat} (hnd:ps.flatten.Nodup) (hk:ps[k]?=some l) (hi:l[i]?=some v):v∉(prs (ps.take k++[l.take i])).map (·.1):=by
 rw [prs_fst,List.flatten_append]
 rw [flat_split hk hi] at hnd
 have:=(List.nodup_append.1 hnd).2.2
 intro hm
 exact this v (by simpa using hm) v List.mem_cons_self rfl
theorem prs_step {ps:List (List Nat)} {l:List Nat} {k i v:Nat} (hk:ps[k]?=some l) (hi:l[i]?=some v):prs (ps.take k++[l.take (i+1)])=prs (ps.take k++[l.take i])++[((v,(k,i)):KE)]:=by
 obtain ⟨h1,e1⟩:=List.getElem?_eq_some_iff.1 hk
 obtain ⟨h2,e2⟩:=List.getElem?_eq_some_iff.1 hi
 rw [prs_snoc,prs_snoc,List.take_succ_eq_append_getElem h2,ents_snoc,e2,List.length_take,List.length_take,Nat.min_eq_left (by omega),Nat.min_eq_left (by omega),List.append_assoc]
theorem prs_row {ps:List (List Nat)} {l:List Nat} {k:Nat} (hk:ps[k]?=some l):prs (ps.take k++[l.take l.length])=prs (ps.take (k+1)):=by
 obtain ⟨h1,e1⟩:=List.getElem?_eq_some_iff.1 hk
 rw [List.take_length,List.take_succ_eq_append_getElem h1,e1]
def kInv1 (put tak lef:Value) (mb:Nat) (ps:List (List Nat)) (L:List HProp) (x:B.X):PB.Inv Nat B.X where
 e:=fun k=>[(0,put),(1,tak),(2,lef),(6,.bool false),(7,.map (some mb)),(8,.int .i64 (k:Nat))]
 L:=fun k=>mapC .u64 mb ((prs (ps.take k)).map kEnc)::L
 x:=fun _=>x
 ok:=fun k=>k≤ps.length
def kInv2 (put tak lef:Value) (mb:Nat) (ps:List (List Nat)) (k:Nat) (l:List Nat) (L:List HProp) (x:B.X):PB.Inv Nat B.X where
 e:=fun i=>[(0,put),(1,tak),(2,lef),(6,.bool false),(7,.map (some mb)),(8,.int .i64 (k:Nat)),(9,.int .i64 (i:Nat))]
 L:=fun i=>mapC .u64 mb ((prs (ps.take k++[l.take i])).map kEnc)::L
 x:=fun _=>x
 ok:=fun i=>i≤l.length
def kInv3 (put tak lef all_:Value) (mb:Nat) (ls:List (List Nat)) (L:List HProp) (x:B.X):PB.Inv (Nat × List KE) B.X where
 e:=fun i=>[(0,put),(1,tak),(2,lef),(6,.bool false),(7,.map (some mb)),(10,all_),(11,.int .i64 (i.1:Nat))]
 L:=fun i=>mapC .u64 mb (i.2.map kEnc)::L
 x:=fun _=>x
 ok:=fun i=>i.1≤ls.length∧(i.2.map (·.1)).Nodup∧i.2.length≤1000000∧(∀ y∈i.2,y.1<18446744073709551616∧y.2.1<1000000∧y.2.2<1000000)∧KeptA i.2 (ls.drop i.1)
structure K4 where
 i:Nat
 R:List KE
 f:Nat→Nat
 lm:List (Int × Value)
def kInv4 (put tak lef all_:Value) (mb lb:Nat) (ls:List (List Nat)) (t:Nat) (l:List Nat) (L:List HProp) (x:B.X):PB.Inv K4 B.X where
 e:=fun i=>[(0,put),(1,tak),(2,lef),(6,.bool false),(7,.map (some mb)),(10,all_),(11,.int .i64 (t:Nat)),(12,.map (some lb)),(13,.int .i64 (i.i:Nat))]
 L:=fun i=>mapC .u64 mb (i.R.map kEnc)::mapC .i64 lb i.lm::L
 x:=fun _=>x
 ok:=fun i=>i.i≤l.length∧(i.R.map (·.1)).Nodup∧i.R.length≤1000000∧(∀ y∈i.R,y.1<18446744073709551616∧y.2.1<1000000∧y.2.2<1000000)∧KeptL i.R (l.drop i.i) i.f∧KeptA (rmvs i.R (l.drop i.i)) (ls.drop (t+1)) ∧
  ∀ k:Nat,mGet i.lm (k:Nat)=some (.int .i64 (i.f k:Nat))∨(mGet i.lm (k:Nat)=none∧i.f k=0)
set_option maxHeartbeats 4000000 in
theorem kept_tr {pa ta la:Option Addr} {pn pc tn tc ln lc:Nat} {pvs tvs:List Value} {ps ts:List (List Nat)} {left:List Nat} (hp:RdsO L pa pn pvs) (hps:HdrOk L pvs ps) (ht:RdsO L ta tn tvs) (hts:HdrOk L tvs ts) (hl:RdsO L la ln (left.map num))
  (hb1:ps.length≤1000) (hb2:ts.length≤1000) (hb3:ps.flatten.length≤100000) (hb4:∀ v∈ps.flatten,v<18446744073709551616) (hnd:ps.flatten.Nodup) (hbl:∀ l∈ts++[left],l.length≤1000000) (hK:KeptA (prs ps) (ts++[left])) :
  Tr Try.prog B 51 [.slice pa pn pc,.slice ta tn tc,.slice la ln lc] L x fun v L' x'=>v=.bool true∧x'=x:=by
 have hpn:pn=ps.length:=by have:=hp.1;have:=hps.1;omega
 have htn:tn=ts.length:=by have:=ht.1;have:=hts.1;omega
 have hln:ln=left.length:=by have:=hl.1;simpa using this
 subst hpn
 subst htn
 subst hln
 refine tr_of_body Try.func51 rfl Try.ntmps51 (by simp) fun um Q _ hQ=>?_
 simp only [argE,Nat.zero_add,Nat.reduceAdd]
 repeat (first | (apply wo_mo;apply mo_makeMap .u64;exact trivial) | refine we_seq ?_ | (refine wR ?_;try simp only [oS]) | refine wo_nil ?_ | refine wA ?_)
 rintro v' L' ⟨mb,rfl,rfl⟩
 repeat (first | refine we_seq ?_ | (refine wR ?_;try simp only [oS]) | refine wo_nil ?_ | refine wA ?_ | refine we_block ?_)
 refine we_loopN (kInv1 (.slice pa ps.length pc) (.slice ta ts.length tc) (.slice la left.length lc) mb ps L x) (fun k=>ps.length-k) 0 (Nat.zero_le _) ⟨rfl,rfl,rfl,rfl,rfl,rfl,trivial⟩ .refl rfl ?_
 intro k hk
 replace hk:k≤ps.length:=hk
 simp only [kInv1]
 by_cases hlt:k<ps.length
 ·obtain ⟨l,hlk⟩:∃ l,ps[k]?=some l:=⟨_,List.getElem?_eq_getElem hlt⟩
  obtain ⟨a,c,hv,hrow⟩:=hps.2 k l hlk
  obtain ⟨pb,po,rfl,hpr⟩:=hp.rds (by omega)
  have hhd:=hpr k _ hv
  repeat (first | refine wlssT ?_ | refine we_seq ?_ | (refine wR ?_;try simp only [oS]) | refine wo_nil ?_ | refine wM ?_ | refine wA ?_ | refine wE ?_ | refine wT ?_ | refine we_skip ?_ | refine we_block ?_)
  refine we_loopN (kInv2 (.slice (some ⟨pb,po,none⟩) ps.length pc) (.slice ta ts.length tc) (.slice la left.length lc) mb ps k l L x) (fun i=>l.length-i) 0 (Nat.zero_le _) ?_ ?_ rfl ?_
  ·simp only [kInv2,List.take_zero,prs_nil]
   exact ⟨rfl,rfl,rfl,rfl,rfl,rfl,rfl,trivial⟩
  ·simp only [kInv2,List.take_zero,prs_nil]
   exact .refl
  intro i hi
  replace hi:i≤l.length:=hi
  simp only [kInv2]
  have hfl:=flat_len hlk hi
  have hrl:=row_len hlk
  have h9:Rd (mapC .u64 mb ((prs (ps.take k++[l.take i])).map kEnc)::L) pb (po+k) (.slice a l.length c):=.there hhd
  by_cases hlt2:i<l.length
  ·obtain ⟨v,hvi⟩:∃ v,l[i]?=some v:=⟨_,List.getElem?_eq_getElem hlt2⟩
   obtain ⟨b,o,rfl,hrd⟩:=hrow.rds (by omega)
   have h10:Rd (mapC .u64 mb ((prs (ps.take k++[l.take i])).map kEnc)::L) b (o+i) (num v):=.there (hrd i (num v) (by rw [List.getElem?_map,hvi];rfl))
   have hnew:=kPut (k:=k) (i:=i) (flat_new hnd hlk hvi)
   repeat (first | (apply wo_po;apply mo_index1;exact rfl;exact rfl;omega;exact gY) | (apply wo_po;apply mo_load;exact rfl;(first | exact h9 | exact h10);exact trivial) | refine wlssT ?_ | refine we_seq ?_ | (refine wR ?_;try simp only [oS]) | refine wo_nil ?_ | refine wM ?_ | refine wE ?_ | refine wT ?_ | refine we_skip ?_ | refine we_block ?_)
   repeat (first | (apply wo_po;apply mo_buildArr (pv:=[(0,_),(1,_)]);exact rfl;exact .cons rfl (.cons rfl .nil);exact rfl;exact trivial) | (apply wo_pm;apply mo_mapUpdate (ki:=.u64) (k:=(v:Nat));exact rfl;exact rfl;exact rfl;exact .here;exact trivial) | (refine wR ?_;try simp only [oS]) | refine wo_nil ?_ | refine wM ?_ | refine wA ?_ | refine wadd ?_)
   refine at_roundS (B:=B) (I:=kInv2 (.slice (some ⟨pb,po,none⟩) ps.length pc) (.slice ta ts.length tc) (.slice la left.length lc) mb ps k l L x) (R:=fun j=>l.length-j<l.length-i) (i+1) (by omega) (show i+1≤l.length by omega) ?_ (fun h st=>?_) rfl
   ·simp only [kInv2,prs_step hlk hvi,List.length_append,List.length_singleton]
    exact ⟨rfl,rfl,rfl,rfl,rfl,rfl,rfl,trivial⟩
   ·show Star (mapC .u64 mb ((prs (ps.take k++[l.take (i+1)])).map kEnc)::L) h
    rw [prs_step hlk hvi,← hnew]
    exact st
  ·obtain rfl:i=l.length:=by omega
   repeat (first | (apply wo_po;apply mo_index1;exact rfl;exact rfl;omega;exact gY) | (apply wo_po;apply mo_load;exact rfl;exact h9;exact trivial) | refine wlssF ?_ | refine we_seq ?_ | (refine wR ?_;try simp only [oS]) | refine wo_nil ?_ | refine wM ?_ | refine wA ?_ | refine wadd ?_ | refine wE ?_ | refine wF ?_ | refine we_exit ?_)
   refine at_roundS (B:=B) (I:=kInv1 (.slice (some ⟨pb,po,none⟩) ps.length pc) (.slice ta ts.length tc) (.slice la left.length lc) mb ps L x) (R:=fun j=>ps.length-j<ps.length-k) (k+1) (by omega) (show k+1≤ps.length by omega) ?_ (fun h st=>?_) rfl
   ·simp only [kInv1,← prs_row hlk]
    exact ⟨rfl,rfl,rfl,rfl,rfl,rfl,trivial⟩
   ·show Star (mapC .u64 mb ((prs (ps.take (k+1))).map kEnc)::L) h
    rw [← prs_row hlk]
    exact st
 obtain rfl:k=ps.length:=by omega
 rw [List.take_length]
 repeat (first | refine wlssF ?_ | refine we_seq ?_ | (refine wR ?_;try simp only [oS]) | refine wo_nil ?_ | refine wM ?_ | refine wA ?_ | refine wE ?_ | refine wF ?_ | refine we_exit ?_)
 -- all lists,one behind the other
 refine wo_star (vec 1 (.slice none 0 0) []::mapC .u64 mb ((prs ps).map kEnc)::L) (fun h st=>vec_nil st) ?_
 have hone:∀ w∈tvs,one w=true:=fun w hw=>by
  obtain ⟨i,hi⟩:=List.mem_iff_getElem?.1 hw
  have hlt:=(List.getElem?_eq_some_iff.1 hi).1
  obtain ⟨a,c,e,_⟩:=hts.2 i _ (List.getElem?_eq_getElem (by have:=hts.1;omega))
  rw [hi] at e;cases e;rfl
 have hrd1:ts.length=0∨∃ xb xo,ta=some ⟨xb,xo,none⟩∧Rds (vec 1 (.slice none 0 0) []::mapC .u64 mb ((prs ps).map kEnc)::L) xb xo tvs:=ht.2.imp id fun ⟨b,o,e,r⟩=>⟨b,o,e,fun i v hi=>.there (.there (r i v hi))⟩
 repeat (first | (apply wo_mo;apply mo_append (sz:=1) (cs:=[]) (new:=tvs);exact rfl;exact rfl;exact rfl;exact rfl;exact .here;(have:=ht.1;omega);exact hrd1;exact hone;(simp only [sliceLen];omega);exact trivial))
 rintro v1 L1 rfl
 repeat (first | (apply wo_mo;apply mo_buildSlice (sz:=1) (vs:=[.slice la left.length lc]);exact rfl;exact .cons rfl .nil;exact rfl;(intro v hv;cases (List.mem_singleton.1 hv);exact rfl);omega;exact trivial) | refine wM ?_)
 rintro v2 L2 ⟨nb,rfl,rfl⟩
 refine wo_pure (of_has (.there .here) (vec_shape (by omega))) ?_
 rintro ⟨ua,un,uc,rfl,hun,_⟩
 have hun:un=ts.length:=by have:=hts.1;simp at hun;omega
 repeat (first | (apply wo_mo;apply mo_append (sz:=1) (cs:=[]++tvs) (new:=[.slice la left.length lc]);exact rfl;exact rfl;exact rfl;exact rfl;exact (.there .here);exact rfl;exact .inr ⟨_,_,rfl,Rds.all .here⟩;(intro v hv;cases (List.mem_singleton.1 hv);exact rfl);(simp only [sliceLen];omega);exact trivial))
 rintro v3 L3 rfl
 refine wo_pure (of_has .here (vec_shape (by omega))) ?_
 rintro ⟨va,vn,vc,rfl,hvn,_,hvz,hvy⟩
 have hvn:vn=ts.length+1:=by have:=hts.1;simp at hvn;omega
 subst hvn
 obtain ⟨vb,vo,rfl⟩:∃ b o,va=some ⟨b,o,none⟩:=by
  cases va with
  | none=>have:=hvz rfl;omega
  | some y=>exact ⟨y.block,y.off,by rw [hvy y rfl]⟩
 let LS:List HProp:=vec 1 (.slice (some ⟨vb,vo,none⟩) (ts.length+1) vc) ([]++tvs++[.slice la left.length lc])::arr nb 0 [.slice la left.length lc]::L
 let ls:List (List Nat):=ts++[left]
 have hH:∀ (i:Nat) l,ls[i]?=some l→∃ a c,Rd LS vb (vo+i) (.slice a l.length c)∧RdsO LS a l.length (l.map num):=fun i l hi=>by
  rcases Nat.lt_or_ge i ts.length with hlt | hge
  ·rw [List.getElem?_append_left hlt] at hi
   obtain ⟨a,c,e,r⟩:=hts.2 i l hi
   exact ⟨a,c,rd_vec .here (by rw [List.nil_append,List.getElem?_append_left (by have:=hts.1;omega)];exact e),r.there.there⟩
  ·rw [List.getElem?_append_right hge] at hi
   have:i-ts.length=0:=by have:=(List.getElem?_eq_some_iff.1 hi).1;simp at this;omega
   rw [this] at hi;simp at hi;subst hi
   exact ⟨la,lc,rd_vec .here (by rw [List.nil_append,List.getElem?_append_right (by have:=hts.1;omega),show i-tvs.length=0 by have:=hts.1;omega];rfl),hl.there.there⟩
 repeat (first | refine we_seq ?_ | (refine wR ?_;try simp only [oS]) | refine wo_nil ?_ | refine wA ?_ | refine we_block ?_)
 refine we_star (mapC .u64 mb ((prs ps).map kEnc)::LS) (fun h st=>Ent.star (.take (.there (.there .here)) .refl) st) ?_
 refine we_loopN (kInv3 (.slice pa ps.length pc) (.slice ta ts.length tc) (.slice la left.length lc) (.slice (some ⟨vb,vo,none⟩) (ts.length+1) vc) mb ls LS x) (fun i=>ls.length-i.1) (0,prs ps) ⟨Nat.zero_le _,?_,?_,?_,?_⟩ ⟨rfl,rfl,rfl,rfl,rfl,rfl,rfl,trivial⟩ .refl rfl ?_
 ·show ((prs ps).map (·.1)).Nodup
  rw [prs_fst];exact hnd
 ·show (prs ps).length≤1000000
  rw [prs_len];omega
 ·intro y hy
  obtain ⟨l,h1,h2⟩:=prs_mem hy
  have e1:=(List.getElem?_eq_some_iff.1 h1).1
  have e2:=(List.getElem?_eq_some_iff.1 h2).1
  have e3:=row_len h1
  exact ⟨hb4 _ (List.mem_flatten.2 ⟨l,List.mem_of_getElem? h1,List.mem_of_getElem? h2⟩),by omega,by omega⟩
 ·exact hK
 rintro ⟨t,R⟩ ⟨ht1,ht2,ht3,ht4,ht5⟩
 simp only at ht1 ht2 ht3 ht4 ht5
 simp only [kInv3]
 have hlsl:ls.length=ts.length+1:=by simp [ls]
 by_cases hlt:t<ls.length
 ·obtain ⟨l,hlt'⟩:∃ l,ls[t]?=some l:=⟨_,List.getElem?_eq_getElem hlt⟩
  obtain ⟨a,c,r1,r2⟩:=hH t l hlt'
  have hll:=hbl l (List.mem_of_getElem? hlt')
  have hdl:ls.drop t=l::ls.drop (t+1):=by rw [List.drop_eq_getElem_cons hlt,(List.getElem?_eq_some_iff.1 hlt').2]
  rw [hdl] at ht5
  obtain ⟨hK1,hK2⟩:=ht5
  repeat (first | (apply wo_mo;apply mo_makeMap .i64;exact trivial) | refine wlssT ?_ | refine we_seq ?_ | (refine wR ?_;try simp only [oS]) | refine wo_nil ?_ | refine wM ?_ | refine wE ?_ | refine wT ?_ | refine we_skip ?_ | refine we_block ?_)
  rintro v' L' ⟨lb,rfl,rfl⟩
  repeat (first | refine we_seq ?_ | (refine wR ?_;try simp only [oS]) | refine wo_nil ?_ | refine wA ?_ | refine we_block ?_)
  refine we_loopN (kInv4 (.slice pa ps.length pc) (.slice ta ts.length tc) (.slice la left.length lc) (.slice (some ⟨vb,vo,none⟩) (ts.length+1) vc) mb lb ls t l LS x) (fun i=>l.length-i.i) ⟨0,R,fun _=>0,[]⟩ ⟨Nat.zero_le _,ht2,ht3,ht4,hK1,hK2,fun k=>.inr ⟨rfl,rfl⟩⟩ ⟨rfl,rfl,rfl,rfl,rfl,rfl,rfl,rfl,rfl,trivial⟩ (.take (.there .here) (.take .here .refl)) rfl ?_
  rintro ⟨i,R,f,lm⟩ ⟨hi1,hi2,hi3,hi4,hi5,hi6,hi7⟩
  simp only at hi1 hi2 hi3 hi4 hi5 hi6 hi7
  simp only [kInv4]
  have g9:∀ {c1 c2:HProp},Rd (c1::c2::LS) vb (vo+t) (.slice a l.length c):=.there (.there r1)
  by_cases hlt2:i<l.length
  ·obtain ⟨v,hvi⟩:∃ v,l[i]?=some v:=⟨_,List.getElem?_eq_getElem hlt2⟩
   have hdi:l.drop i=v::l.drop (i+1):=by rw [List.drop_eq_getElem_cons hlt2,(List.getElem?_eq_some_iff.1 hvi).2]
   rw [hdi] at hi5 hi6
   obtain ⟨k,p,hm,hf,hrest⟩:=hi5
   obtain ⟨b,o,rfl,hrd⟩:=r2.rds (by omega)
   have g10:∀ {c1 c2:HProp},Rd (c1::c2::LS) b (o+i) (num v):=.there (.there (hrd i (num v) (by rw [List.getElem?_map,hvi];rfl)))
   have hG:=kGet hi2 hm
   have hD:=kDel (v:=v) hi2
   obtain ⟨hb5,hb6,hb7⟩:=hi4 _ hm
   simp only at hb5 hb6 hb7
   have hlast:mGet lm ((k:Nat):Int)=some (.int .i64 (f k:Nat))∨(mGet lm ((k:Nat):Int)=none∧(Value.int .i64 0)=.int .i64 (f k:Nat)):=(hi7 k).imp id fun ⟨e1,e2⟩=>⟨e1,by rw [e2];rfl⟩
   repeat (first | (apply wo_po;apply mo_index1;exact rfl;exact rfl;omega;exact gY) | (apply wo_po;apply mo_load;exact rfl;(first | exact g9 | exact g10);exact trivial) | (apply wo_po;apply mo_look2 (ki:=.u64) (k:=((v:Nat):Int)) (l:=R.map kEnc) hG;exact rfl;exact rfl;exact .here;exact trivial) | (apply wo_mo;apply mo_alloc;exact trivial) | refine wlssT ?_ | refine we_seq ?_ | (refine wR ?_;try simp only [oS]) | refine wo_nil ?_ | refine wM ?_ | (apply wo_po;apply mo_extract;exact rfl;exact rfl;exact gY) | refine wE ?_ | refine wT ?_ | refine we_skip ?_ | refine we_block ?_)
   rintro v' L' ⟨xb,rfl,rfl⟩
   repeat (first | (apply wo_pm;apply mo_storeA (c:=0) (k:=0) (a:=0) (vs:=[.int .i64 0,.int .i64 0]);exact rfl;exact rfl;exact rfl;(intro w hw;simp [kV,Value.cells] at hw;rcases hw with rfl | rfl <;> rfl);exact rfl;exact Nat.le_refl 2;exact .here;exact trivial) | refine we_seq ?_ | (refine wR ?_;try simp only [oS]) | refine wo_nil ?_ | refine wM ?_ | refine wA ?_ | (apply wo_po;apply mo_not;exact rfl;exact gY))
   refine wo_star (arr xb 0 [.int .i64 (k:Nat),.int .i64 (p:Nat)]::mapC .u64 mb (R.map kEnc)::mapC .i64 lb lm::LS) (fun h st=>st) ?_
   have x0:∀ {M:List HProp},Rd (arr xb 0 [.int .i64 (k:Nat),.int .i64 (p:Nat)]::M) xb (0+0) (.int .i64 (k:Nat)):=Rd.row (k:=0) rfl rfl
   have x1:∀ {M:List HProp},Rd (arr xb 0 [.int .i64 (k:Nat),.int .i64 (p:Nat)]::M) xb (0+1) (.int .i64 (p:Nat)):=Rd.row (k:=1) rfl rfl
   repeat (first | (apply wo_po;apply mo_indexArr1 (j:=0);exact rfl;exact rfl;omega;exact gY) | (apply wo_po;apply mo_indexArr1 (j:=1);exact rfl;exact rfl;omega;exact gY) | (apply wo_po;apply mo_load;exact rfl;(first | exact x0 | exact x1);exact gY) | (apply wo_po;apply mo_look1 (ki:=.i64) (k:=((k:Nat):Int)) (l:=lm) hlast;exact rfl;exact rfl;exact (.there (.there .here));exact gY) | refine wgtrF ?_ | refine we_seq ?_ | (refine wR ?_;try simp only [oS]) | refine wo_nil ?_ | refine wM ?_ | refine wJ ?_ | refine wF ?_ | refine we_skip ?_)
   obtain ⟨R',hR'⟩:∃ R',R'=R.filter fun y=>decide (y.1≠v):=⟨_,rfl⟩
   have hlen:=kLen hi2 hm
   rw [← hR'] at hD hrest hlen
   repeat (first | (apply wo_pm;apply mo_mapUpdate (ki:=.i64) (k:=((k:Nat):Int));exact rfl;exact rfl;exact rfl;exact (.there (.there .here));exact trivial) | (refine wR ?_;try simp only [oS]) | refine wo_nil ?_ | refine wM ?_)
   refine wo_star (mapC .u64 mb (R.map kEnc)::mapC .i64 lb (mPut lm ((k:Nat):Int) (.int .i64 (p:Nat)))::LS) (fun h st=>Ent.star (.take (.there (.there .here)) (.take .here (.drop .refl))) st) ?_
   repeat (first | (apply wo_po;apply mo_index1;exact rfl;exact rfl;omega;exact gY) | (apply wo_po;apply mo_load;exact rfl;(first | exact g9 | exact g10);exact trivial) | (apply wo_pm;apply mo_mapDelete (ki:=.u64) (k:=((v:Nat):Int));exact rfl;exact rfl;exact .here;exact trivial) | (refine wR ?_;try simp only [oS]) | refine wo_nil ?_ | refine wM ?_ | refine wA ?_ | refine wadd ?_)
   rw [hD]
   refine at_round (B:=B) (I:=kInv4 (.slice pa ps.length pc) (.slice ta ts.length tc) (.slice la left.length lc) (.slice (some ⟨vb,vo,none⟩) (ts.length+1) vc) mb lb ls t l LS x) (R:=fun j=>l.length-j.i<l.length-i) ⟨i+1,R',upd f k p,mPut lm ((k:Nat):Int) (.int .i64 (p:Nat))⟩ (by show l.length-(i+1)<l.length-i;omega) ⟨by show i+1≤l.length;omega,?_,?_,?_,hrest,?_,fun k'=>?_⟩ ⟨rfl,rfl,rfl,rfl,rfl,rfl,rfl,rfl,rfl,trivial⟩ .refl rfl
   ·show (R'.map (·.1)).Nodup
    rw [hR'];exact kNd hi2
   ·show R'.length≤1000000
    omega
   ·intro y hy
    rw [hR'] at hy
    exact hi4 y (List.mem_filter.1 hy).1
   ·show KeptA (rmvs R' (l.drop (i+1))) _
    rw [hR'];exact hi6
   ·show mGet (mPut lm ((k:Nat):Int) (.int .i64 (p:Nat))) ((k':Nat):Int)=some (.int .i64 (upd f k p k':Nat))∨(mGet (mPut lm ((k:Nat):Int) (.int .i64 (p:Nat))) ((k':Nat):Int)=none∧upd f k p k'=0)
    rw [mGet_put]
    by_cases e:k'=k
    ·subst e
     rw [if_pos rfl,upd_same];exact .inl rfl
    ·rw [if_neg (by omega),upd_other e];exact hi7 k'
  ·obtain rfl:i=l.length:=by omega
   repeat (first | (apply wo_po;apply mo_index1;exact rfl;exact rfl;omega;exact gY) | (apply wo_po;apply mo_load;exact rfl;exact g9;exact trivial) | refine wlssF ?_ | refine we_seq ?_ | (refine wR ?_;try simp only [oS]) | refine wo_nil ?_ | refine wM ?_ | refine wA ?_ | refine wadd ?_ | refine wE ?_ | refine wF ?_ | refine we_exit ?_)
   have e0:l.drop l.length=[]:=List.drop_length
   rw [e0] at hi6
   refine at_round (B:=B) (I:=kInv3 (.slice pa ps.length pc) (.slice ta ts.length tc) (.slice la left.length lc) (.slice (some ⟨vb,vo,none⟩) (ts.length+1) vc) mb ls LS x) (R:=fun j=>ls.length-j.1<ls.length-t) (t+1,R) (by show ls.length-(t+1)<ls.length-t;omega) ⟨by show t+1≤ls.length;omega,hi2,hi3,hi4,hi6⟩ ⟨rfl,rfl,rfl,rfl,rfl,rfl,rfl,trivial⟩ (.take .here (.drop .refl)) rfl
 ·obtain rfl:t=ls.length:=by omega
  rw [List.drop_length] at ht5
  replace ht5:R=[]:=ht5
  subst ht5
  rw [hlsl]
  repeat (first | (apply wo_po;apply mo_mapLen;exact rfl;exact .here;exact gY) | refine wlssF ?_ | refine we_seq ?_ | (refine wR ?_;try simp only [oS]) | refine wo_nil ?_ | refine wM ?_ | refine wA ?_ | (apply wo_po;apply mo_bin;exact rfl;exact rfl;exact bin_eql;exact gY) | refine wE ?_ | refine wF ?_ | refine we_ret ?_ | refine we_exit ?_)
  (first | refine or1 Try.func51 Try.results51 hQ rfl ?_ | refine on1 Try.func51 Try.results51 hQ rfl ?_)
  exact ⟨rfl,rfl⟩
end
end
end Go.Proofs.Ytmkkanmkjfnpdaa
namespace Go.Proofs.Ytmkkanmkjfnpdaa
open Go Go.PB
attribute [local irreducible] Mo Bin Eql Tr Wo Ap Wle
attribute [local instance] Pass.of_no
section
theorem row_cellsQ {b:Nat} {v:Value} {L:List HProp}:∀ (n o:Nat) {h:Hp},Star (arr b o (List.replicate n v)::L) h→Star (all ((List.range' o n).map fun i=>arr b i [v])::L) h
 | 0,o,h,s=>star_shut (M:=[]) (star_drop s)
 | n+1,o,h,s=>by
  rw [List.replicate_succ] at s
  have s1:Star (arr b o [v]::arr b (o+1) (List.replicate n v)::L) h:=star_cut (us:=[v]) s
  rw [List.range'_succ,List.map_cons]
  exact cons_all (star_map s1 (fun _ z=>z) fun _ z=>row_cellsQ n (o+1) z)
theorem star_join:∀ {A B L:List HProp} {h:Hp},Star (all A::all B::L) h→Star (all (A++B)::L) h
 | [],B,L,h,s=>star_drop s
 | c::A,B,L,h,s=>cons_all (star_map (all_cons s) (fun _ z=>z) fun _ z=>star_join z)
theorem map_mapIdxQ {α β γ:Type} {f:Nat→α→β} {g:β→γ} {l:List α}:(l.mapIdx f).map g=l.mapIdx fun i a=>g (f i a):=by
 apply List.ext_getElem?
 intro i
 rw [List.getElem?_map,List.getElem?_mapIdx,List.getElem?_mapIdx]
 cases l[i]? <;> rfl
theorem mapIdx_const {α β:Type} {g:α→β} {l:List α}:(l.mapIdx fun _ a=>g a)=l.map g:=by
 apply List.ext_getElem?
 intro i
 rw [List.getElem?_map,List.getElem?_mapIdx]
theorem sum_le {c:Nat}:∀ {l:List Nat},(∀ a∈l,a≤c)→sumN l≤c*l.length
 | [],_=>Nat.zero_le _
 | a::l,h=>by
  have h1:=h a (by simp)
  have h2:=sum_le (c:=c) (l:=l) fun b hb=>h b (by simp [hb])
  simp only [sumN,List.foldr_cons,List.length_cons,Nat.mul_add,Nat.mul_one] at h2 ⊢;omega
theorem sum_app {l m:List Nat}:sumN (l++m)=sumN l+sumN m:=by
 induction l with
 | nil=>simp [sumN]
 | cons a l ih=>simp only [sumN,List.cons_append,List.foldr_cons] at ih ⊢;omega
theorem dealM {Ro:HProp} (hd:Dup Ro) {cb:Nat} {bs:List HProp} {L:List HProp} {h:Hp} (s:Star (Ro::all bs::arr cb 0 (List.replicate bs.length (.slice none 0 0))::L) h):Star (all (bs.mapIdx fun i p=>mrM Ro cb i p)::Ro::L) h:=by
 have s1:=dup_many hd s bs.length
 have s2:Star (all (List.replicate bs.length Ro)::all bs::arr cb 0 (List.replicate bs.length (.slice none 0 0))::Ro::L) h:=Ent.star (.take .here (.take (.there .here) (.take (.there .here) (.take .here .refl)))) s1
 have s3:=star_zip (by simp) s2
 have s4:=row_cellsQ bs.length 0 (star_swap s3)
 have s6:=star_zip (by simp) (star_swap s4)
 have e:List.zipWith (fun a b=>all [a,b]) (List.zipWith (fun a b=>all [a,b]) (List.replicate bs.length Ro) bs) ((List.range' 0 bs.length).map fun i=>arr cb i [.slice none 0 0])=bs.mapIdx fun i p=>mrM Ro cb i p:=by
  apply List.ext_getElem?
  intro i
  by_cases hi:i<bs.length
  ·simp [mrM,hi,List.getElem?_zipWith,List.getElem?_range',List.getElem?_replicate]
  ·have h1:(bs.mapIdx fun i p=>mrM Ro cb i p)[i]?=none:=List.getElem?_eq_none_iff.2 (by simp;omega)
   rw [h1]
   apply List.getElem?_eq_none_iff.2
   simp;omega
 rw [e] at s6
 exact s6
def mpBs (Wf:Nat→Nat) (ks:List (Nat × Nat)):List HProp:=ks.mapIdx fun i y=>mrBx y.1 y.2 (Wf i) i
def mtBs (ks:List Nat):List HProp:=ks.mapIdx fun i b=>arr b 0 [.int .i64 (i:Nat)]
theorem mpBs_snoc {Wf:Nat→Nat} {ks:List (Nat × Nat)} {y:Nat × Nat}:mpBs Wf (ks++[y])=mpBs Wf ks++[mrBx y.1 y.2 (Wf ks.length) ks.length]:=by
 unfold mpBs;rw [List.mapIdx_append];simp
theorem mtBs_snoc {ks:List Nat} {b:Nat}:mtBs (ks++[b])=mtBs ks++[arr b 0 [.int .i64 (ks.length:Nat)]]:=by
 unfold mtBs;rw [List.mapIdx_append];simp
def mrQ (Wf:Nat→Nat) (pn T:Nat) (kp:List (Nat × Nat)) (kt:List Nat):List MrT:=(kp.mapIdx fun k _=>(⟨⟨k,qpCs k (Wf k),[],[],.load⟩,.c0⟩:MrT))++kt.mapIdx fun k _=>(⟨⟨pn+k,qtCs T,[],[],.load⟩,.c0⟩:MrT)
def qfO (Wf:Nat→Nat) (pn:Nat) (j:Nat):List Nat:=if j<pn then (List.range (Wf j)).map (qVal j) else []
theorem qpCs_some {k W:Nat}:(qpCs k W).filterMap id=(List.range W).map (qVal k):=by
 have key:∀ l:List Nat,(l.map fun i=>some (qVal k i)).filterMap id=l.map (qVal k):=by
  intro l
  induction l with
  | nil=>rfl
  | cons a l ih=>simp only [List.map_cons,List.filterMap_cons,id,ih]
 exact key _
theorem qtCs_some:∀ {T:Nat},(qtCs T).filterMap id=[]
 | 0=>rfl
 | T+1=>by unfold qtCs;rw [List.replicate_succ];exact qtCs_some (T:=T)
theorem qfO_ok {Wf:Nat→Nat} {pn:Nat} (hW:∀ k,Wf k<200) (j:Nat):(qfO Wf pn j).Nodup∧(∀ v∈qfO Wf pn j,v/4294967296=j)∧(pn≤j→qfO Wf pn j=[]):=by
 have hj:=hW j
 refine ⟨?_,fun v hv=>?_,fun h=>if_neg (by omega)⟩
 ·unfold qfO;split
  ·have hnd:(List.range (Wf j)).Nodup:=List.nodup_range
   refine List.Pairwise.map _ (fun a b hab=>?_) hnd
   unfold qVal;omega
  ·exact .nil
 ·unfold qfO at hv;split at hv
  ·obtain ⟨i,hi,rfl⟩:=List.mem_map.1 hv
   have:=List.mem_range.1 hi
   unfold qVal;omega
  ·simp at hv
theorem mrQ_at {Wf:Nat→Nat} {pn T:Nat} {kp:List (Nat × Nat)} {kt:List Nat} (hkp:kp.length=pn) {j:Nat} {q:MrT} (h:(mrQ Wf pn T kp kt)[j]?=some q) :
  (j<pn∧q=⟨⟨j,qpCs j (Wf j),[],[],.load⟩,.c0⟩)∨(pn≤j∧j<pn+kt.length∧q=⟨⟨j,qtCs T,[],[],.load⟩,.c0⟩):=by
 unfold mrQ at h
 by_cases hj:j<pn
 ·left
  rw [List.getElem?_append_left (by simp;omega),List.getElem?_mapIdx] at h
  obtain ⟨a,_,rfl⟩:=Option.map_eq_some_iff.1 h
  exact ⟨hj,rfl⟩
 ·right
  rw [List.getElem?_append_right (by simp;omega),List.getElem?_mapIdx] at h
  obtain ⟨a,ha,rfl⟩:=Option.map_eq_some_iff.1 h
  have hl:=(List.getElem?_eq_some_iff.1 ha).1
  simp only [List.length_mapIdx,hkp] at hl ⊢
  exact ⟨by omega,by omega,by rw [show pn+(j-pn)=j by omega]⟩
def mrSum (Wf:Nat→Nat) (pn:Nat):Nat:=sumN ((List.range pn).map Wf)
theorem mrSum_succ {Wf:Nat→Nat} {pn:Nat}:mrSum Wf (pn+1)=mrSum Wf pn+Wf pn:=by
 unfold mrSum;rw [List.range_succ,List.map_append,sum_app];simp [sumN]
theorem mrSum_le {Wf:Nat→Nat} (hW:∀ k,Wf k<200) (pn:Nat):mrSum Wf pn≤200*pn:=by
 induction pn with
 | zero=>simp [mrSum,sumN]
 | succ pn ih=>rw [mrSum_succ];have:=hW pn;omega
theorem mrQ_begin {n pn tn T:Nat} {Wf:Nat→Nat} {kp:List (Nat × Nat)} {kt:List Nat} {f:Nat→Nat} (hkp:kp.length=pn) (hkt:kt.length=tn) (hW:∀ k,Wf k<200) (hT:T<200) (hpn:pn≤4) (htn:tn≤4) (hn:2≤n) (hf0:f 0=0) (hf1:f 1=0) (hf:∀ i,i<n→f (2+2*i)=i) (h2:f (2*n+2)=0) (h3:f (2*n+3)=0) (h4:f (2*n+4)=0) :
  MrI n 1600 (mrSum Wf pn) ⟨f,[],[]⟩ (mrQ Wf pn T kp kt)∧QE (pn+tn) (qfO Wf pn) (fun j=>pn≤j) ⟨f,[],[]⟩ ((mrQ Wf pn T kp kt).map MrT.q):=by
 have hlen:(mrQ Wf pn T kp kt).length=pn+tn:=by simp [mrQ,hkp,hkt]
 refine mr_begin hn hf0 hf1 hf h2 h3 h4 hlen (fun j q h=>?_) ?_ ?_
 ·rcases mrQ_at hkp h with ⟨h1,rfl⟩ | ⟨h1,h2,rfl⟩
  ·refine ⟨rfl,rfl,rfl,rfl,rfl,?_,fun h=>?_⟩
   ·show ((qpCs j (Wf j)).filterMap id).Sublist _
    rw [qpCs_some,qfO,if_pos h1]
    exact List.Sublist.refl _
   ·have h:none∈qpCs j (Wf j):=h
    simp [qpCs] at h
  ·refine ⟨rfl,rfl,rfl,rfl,rfl,?_,fun _=>h1⟩
   show ((qtCs T).filterMap id).Sublist _
   rw [qtCs_some];exact List.nil_sublist _
 ·have h1:∀ a∈(mrQ Wf pn T kp kt).map (fun q=>q.q.cs.length),a≤200:=by
   intro a ha
   obtain ⟨q,hq,rfl⟩:=List.mem_map.1 ha
   obtain ⟨j,hj⟩:=List.mem_iff_getElem?.1 hq
   have:=hW j
   rcases mrQ_at hkp hj with ⟨h1,rfl⟩ | ⟨h1,h2,rfl⟩
   ·simp [qpCs];omega
   ·simp [qtCs];omega
  have h2:=sum_le h1
  rw [List.length_map,hlen] at h2
  omega
 ·unfold mrQ
  rw [List.map_append,sum_app,map_mapIdxQ,map_mapIdxQ]
  have e1:sumN (kt.mapIdx fun i a=>np (⟨⟨pn+i,qtCs T,[],[],.load⟩,.c0⟩:MrT).q.cs)=0:=sum_zero fun a ha=>by
   obtain ⟨i,hi⟩:=List.mem_iff_getElem?.1 ha
   rw [List.getElem?_mapIdx] at hi
   obtain ⟨_,_,rfl⟩:=Option.map_eq_some_iff.1 hi
   show np (qtCs T)=0
   unfold np;rw [qtCs_some];rfl
  rw [e1,Nat.add_zero]
  unfold mrSum
  congr 1
  apply List.ext_getElem?
  intro i
  rw [List.getElem?_mapIdx,List.getElem?_map]
  by_cases hi:i<pn
  ·rw [List.getElem?_eq_getElem (show i<kp.length by omega),List.getElem?_range hi]
   show some (np (qpCs i (Wf i)))=some (Wf i)
   unfold np;rw [qpCs_some];simp
  ·rw [List.getElem?_eq_none_iff.2 (by omega),List.getElem?_eq_none_iff.2 (by simp;omega)];rfl
theorem rd_allQ {M L:List HProp} {b o:Nat} {v:Value} (r:Rd M b o v):Rd (all M::L) b o v:=rd_allR r
def ShpQ (v:Value) (n:Nat):Prop:=∃ a c,v=.slice a n c∧(a=none→n=0)∧∀ y,a=some y→y=⟨y.block,y.off,none⟩
theorem shpQ_vec {v:Value} {cs:List Value} {h:Hp} (hv:vec 1 v cs h):ShpQ v cs.length:=by
 obtain ⟨a,n,c,rfl,hn,_,hz,hy⟩:=vec_shape (by omega) h hv
 obtain rfl:n=cs.length:=by omega
 exact ⟨a,c,rfl,hz,hy⟩
theorem rdsoQ {L F:List HProp} {a:Option Addr} {n c:Nat} {cs:List Value} (hh:Has L (vec 1 (.slice a n c) cs) F) (hn:cs.length=n) (hz:a=none→n=0) (hy:∀ y,a=some y→y=⟨y.block,y.off,none⟩):RdsO L a n cs:=by
 refine ⟨by omega,?_⟩
 cases a with
 | none=>exact .inl (hz rfl)
 | some y =>
  obtain ⟨b,o,sp⟩:=y
  cases hy _ rfl
  exact .inr ⟨b,o,rfl,fun i v hi=>rd_vec hh hi⟩
def qfOut (s:QS) (pn k:Nat):List Nat:=if k<pn then putBy s k else takenBy s k
def qfC (pb tb pn:Nat) (s:QS) (k:Nat) (sv:Value):HProp:=all [all [mrCell pb tb pn k sv,vec 1 sv ((qfOut s pn k).map num)]]
section
variable {pb tb pn tn n Bd:Nat} {s:QS} {qs:List MrT} {fr:Bool} {T:Nat}
theorem qf_left (hI:MrI n Bd T s qs) (hd:∀ q∈qs,mrPlan n fr q=none) {L:List HProp} {h:Hp} (st:Star (all (qs.map fun q=>all [mrLst pb tb pn q.q.me (mrOut pn q)])::L) h) :
  ∃ svs:List Value,(svs.length=qs.length∧∀ (k:Nat) sv,svs[k]?=some sv→ShpQ sv (qfOut s pn k).length)∧Star (all (svs.mapIdx (qfC pb tb pn s))::L) h:=by
 have:=alls_ex (M:=qs.map fun q=>all [mrLst pb tb pn q.q.me (mrOut pn q)]) (C:=qfC pb tb pn s) (Q:=fun k sv=>ShpQ sv (qfOut s pn k).length) (fun k c hk h hc=>by
  rw [List.getElem?_map] at hk
  obtain ⟨q,hq,rfl⟩:=Option.map_eq_some_iff.1 hk
  obtain ⟨h1,h2,sp,⟨sv,hz⟩,_⟩:=hc
  have hq':=mr_get hq
  have hme:=(hI.q.thr k q.q hq').1
  obtain ⟨hcs,hm⟩:=mr_plan_none (hI.ok k q hq) (hd q (List.mem_iff_getElem?.2 ⟨k,hq⟩))
  have ho:mrOut pn q=qfOut s pn k:=by
   have e1:=hI.q.pas k q.q hq'
   have e2:=hI.q.tas k q.q hq'
   have n1:pendP q.q=[]:=by unfold pendP;rw [hcs]
   have n2:pendT s q.q=[]:=by unfold pendT;rw [hcs]
   rw [n1,List.append_nil] at e1
   rw [n2,List.append_nil] at e2
   unfold mrOut qfOut;rw [hme,e1,e2,hm]
  rw [hme,ho] at hz
  refine ⟨sv,?_,⟨h1,h2,sp,hz,trivial⟩⟩
  obtain ⟨g1,g2,_,_,g3⟩:=hz
  obtain ⟨g4,g5,_,g6,_⟩:=g3
  have:=shpQ_vec g6
  rwa [List.length_map] at this) st
 obtain ⟨ys,⟨h1,h2⟩,h3⟩:=this
 exact ⟨ys,⟨by rw [h1,List.length_map],h2⟩,h3⟩
variable {svs:List Value} {F:List HProp}
theorem qf_cell {k:Nat} {sv:Value} (hk:svs[k]?=some sv):Rd (all (svs.mapIdx (qfC pb tb pn s))::F) (if k<pn then pb else tb) (if k<pn then k else k-pn) sv :=
 rd_item (k:=k) (c:=qfC pb tb pn s k sv) (by rw [List.getElem?_mapIdx,hk];rfl) (rd_allQ (rd_allQ (Rd.row (k:=0) rfl rfl)))
theorem qf_vec {k:Nat} {a:Option Addr} {c:Nat} {l:List Nat} (hk:svs[k]?=some (.slice a l.length c)) (hl:qfOut s pn k=l) (hz:a=none→l.length=0) (hy:∀ y,a=some y→y=⟨y.block,y.off,none⟩):RdsO (all (svs.mapIdx (qfC pb tb pn s))::F) a l.length (l.map num):=by
 subst hl
 refine ⟨by simp,?_⟩
 cases a with
 | none=>exact .inl (hz rfl)
 | some y =>
  obtain ⟨b,o,sp⟩:=y
  cases hy _ rfl
  exact .inr ⟨b,o,rfl,fun i v hi=>rd_item (k:=k) (c:=qfC pb tb pn s k _) (by rw [List.getElem?_mapIdx,hk];rfl) (rd_allQ (rd_allQ (rd_vec (.there .here) hi)))⟩
theorem qf_row (hlen:svs.length=pn+tn) (hS:∀ (k:Nat) sv,svs[k]?=some sv→ShpQ sv (qfOut s pn k).length) :
  (RdsO (all (svs.mapIdx (qfC pb tb pn s))::F) (some ⟨pb,0,none⟩) pn (svs.take pn)∧HdrOk (all (svs.mapIdx (qfC pb tb pn s))::F) (svs.take pn) (qPs s pn)) ∧
  RdsO (all (svs.mapIdx (qfC pb tb pn s))::F) (some ⟨tb,0,none⟩) tn (svs.drop pn)∧HdrOk (all (svs.mapIdx (qfC pb tb pn s))::F) (svs.drop pn) (qTs s pn tn):=by
 refine ⟨⟨⟨by simp;omega,.inr ⟨pb,0,rfl,fun i v hi=>?_⟩⟩,⟨by simp [qPs];omega,fun i l hi=>?_⟩⟩,⟨by simp;omega,.inr ⟨tb,0,rfl,fun i v hi=>?_⟩⟩,⟨by simp [qTs];omega,fun i l hi=>?_⟩⟩
 ·have hlt:i<pn:=by have:=(List.getElem?_eq_some_iff.1 hi).1;simp at this;omega
  rw [List.getElem?_take_of_lt hlt] at hi
  have:=qf_cell (pb:=pb) (tb:=tb) (pn:=pn) (s:=s) (F:=F) hi
  rw [if_pos hlt,if_pos hlt] at this
  rw [Nat.zero_add];exact this
 ·unfold qPs at hi
  rw [List.getElem?_map] at hi
  obtain ⟨i',h1,rfl⟩:=Option.map_eq_some_iff.1 hi
  have hlt:i<pn:=by have:=(List.getElem?_eq_some_iff.1 h1).1;simpa using this
  obtain rfl:i=i':=by rw [List.getElem?_range hlt] at h1;exact Option.some.inj h1
  have e:qfOut s pn i=putBy s i:=if_pos hlt
  obtain ⟨a,c,h3,h4,h5⟩:=hS i _ (List.getElem?_eq_getElem (show i<svs.length by omega))
  rw [e] at h3 h4
  have h6:svs[i]?=some (.slice a (putBy s i).length c):=by rw [List.getElem?_eq_getElem (show i<svs.length by omega),h3]
  exact ⟨a,c,by rw [List.getElem?_take_of_lt hlt];exact h6,qf_vec h6 e h4 h5⟩
 ·rw [List.getElem?_drop] at hi
  have:=qf_cell (pb:=pb) (tb:=tb) (pn:=pn) (s:=s) (F:=F) hi
  rw [if_neg (by omega),if_neg (by omega),Nat.add_sub_cancel_left] at this
  rw [Nat.zero_add];exact this
 ·unfold qTs at hi
  rw [List.getElem?_map] at hi
  obtain ⟨i',h1,rfl⟩:=Option.map_eq_some_iff.1 hi
  have hlt:i<tn:=by have:=(List.getElem?_eq_some_iff.1 h1).1;simpa using this
  obtain rfl:i=i':=by rw [List.getElem?_range hlt] at h1;exact Option.some.inj h1
  have e:qfOut s pn (pn+i)=takenBy s (pn+i):=if_neg (by omega)
  obtain ⟨a,c,h3,h4,h5⟩:=hS (pn+i) _ (List.getElem?_eq_getElem (show pn+i<svs.length by omega))
  rw [e] at h3 h4
  have h6:svs[pn+i]?=some (.slice a (takenBy s (pn+i)).length c):=by rw [List.getElem?_eq_getElem (show pn+i<svs.length by omega),h3]
  exact ⟨a,c,by rw [List.getElem?_drop];exact h6,qf_vec h6 e h4 h5⟩
end
end
end Go.Proofs.Ytmkkanmkjfnpdaa
namespace Go.Proofs.Ytmkkanmkjfnpdaa
open Go Go.PB
attribute [local irreducible] Mo Bin Eql Tr Wo Ap
section
def intC (l:List Int):List Value:=l.map fun k=>.int .i64 k
section
variable {B:Hand} [Lets B] {L F:List HProp} {x:B.X}
end
end
end Go.Proofs.Ytmkkanmkjfnpdaa
namespace Go.Proofs.Ytmkkanmkjfnpdaa
open Go Go.PB
attribute [local irreducible] Mo Bin Eql Tr Wo Ap Wle
attribute [local instance] Pass.of_no
section
structure MnD where
 n:Nat
 j:Nat
 mr:Nat
 r:Nat
 b:Nat
 nc:Nat
 yb:Nat
 mb:Nat
 qb:Nat
 pB:Nat
 tB:Nat
 pb:Nat
 tb:Nat
 pn:Nat
 tn:Nat
 T:Nat
 tries:Int
 most:Int
 Wf:Nat→Nat
 kp:List (Nat × Nat)
 kt:List Nat
 Ro:HProp
structure MnOk (D:MnD):Prop where
 hne:D.r≠D.b
 hm1:D.mr≠D.r
 hm2:D.mr≠D.b
 hn:D.n=2^D.j
 hj:1≤D.j∧D.j≤10
 hpn:D.pn≤4
 htn:D.tn≤3
 pos:0<D.pn+D.tn
 hW:∀ k,(D.Wf k:Int)<D.most
 hm:0<D.most∧D.most≤200
 hb:-9223372036854775808≤D.tries∧D.tries≤9223372036854775807
 hT:D.tries%D.most=D.T
 O:MnRo D.Ro D.yb D.mb D.qb D.pB D.tB D.mr D.pb D.tb D.pn D.tn D.tries D.most
 OM:MrRo D.Ro D.mr D.r D.b D.n D.nc
 hd:Dup D.Ro
 hkp:D.kp.length=D.pn
 hkt:D.kt.length=D.tn
def mrTs (D:MnD) (fr:Bool):List (ThrT (mrGm D.n fr D.pb D.tb D.pn D.nc D.mr D.r D.b)) :=
 (D.kp.mapIdx fun k y=>⟨mpF y.1 y.2 D.qb D.pB,(⟨⟨k,qpCs k (D.Wf k),[],[],.load⟩,.c0⟩:MrT),mrM D.Ro D.pb k (mrBx y.1 y.2 (D.Wf k) k)⟩) ++
  D.kt.mapIdx fun k kb=>⟨mtF D.yb D.mb D.qb D.tB kb,(⟨⟨D.pn+k,qtCs D.T,[],[],.load⟩,.c0⟩:MrT),mrM D.Ro D.tb k (arr kb 0 [.int .i64 (k:Nat)])⟩
def mrFv (D:MnD):List Value:=D.kp.map (fun y=>mpF y.1 y.2 D.qb D.pB)++D.kt.map fun kb=>mtF D.yb D.mb D.qb D.tB kb
def mrMs (D:MnD):List HProp:=(mpBs D.Wf D.kp).mapIdx (fun i p=>mrM D.Ro D.pb i p)++(mtBs D.kt).mapIdx fun i p=>mrM D.Ro D.tb i p
def mrU (D:MnD) (f:Nat→Nat):HProp:=all [wds (maddr D.mr D.r D.b D.n) (2*D.n+5) [] f,newsC D.nc]
def mrL (D:MnD) (qs:List MrT):List HProp:=qs.map fun q=>all [mrLst D.pb D.tb D.pn q.q.me (mrOut D.pn q)]
def MnPlay (most:Int) (f:Nat) (cap:List Value) (P:List HProp→Prop):Prop:=∀ (D:MnD) (ta:Option Addr) (tc:Nat) (F:List HProp),MnOk D→D.most=most→RdsO F ta (D.pn+D.tn) (mrFv D)→P F →
 Tr Try.prog mT f (.slice ta (D.pn+D.tn:Nat) tc::cap) (mrU D (seqs D.n)::all (mrMs D)::F) .idle fun v L' x' =>
  ∃ fr s qs,MrI D.n 1600 (mrSum D.Wf D.pn) s qs∧QE (D.pn+D.tn) (qfO D.Wf D.pn) (fun j=>D.pn≤j) s (qs.map MrT.q)∧(∀ q∈qs,mrPlan D.n fr q=none)∧qs.length=D.pn+D.tn∧v=.bool true∧x'=.idle∧L'=mrU D s.f::all (mrL D qs)::F
section
variable {D:MnD} {fr:Bool}
theorem mrTs_q:mrQ D.Wf D.pn D.T D.kp D.kt=(mrTs D fr).map ThrT.q0:=by
 unfold mrQ mrTs;rw [List.map_append,map_mapIdxQ,map_mapIdxQ];rfl
theorem mrTs_f:(mrTs D fr).map ThrT.fv=mrFv D:=by
 unfold mrTs mrFv;rw [List.map_append,map_mapIdxQ,map_mapIdxQ,← mapIdx_const,← mapIdx_const]
theorem mrTs_M:(mrTs D fr).map ThrT.M=mrMs D:=by
 unfold mrTs mrMs mpBs mtBs
 rw [List.map_append,map_mapIdxQ,map_mapIdxQ]
 congr 1 <;> (apply List.ext_getElem?;intro i;simp only [List.getElem?_mapIdx])
 ·cases D.kp[i]? <;> rfl
 ·cases D.kt[i]? <;> rfl
theorem mrTs_len (h:MnOk D):(mrTs D fr).length=D.pn+D.tn:=by simp [mrTs,h.hkp,h.hkt]
theorem mn_n (h:MnOk D):2≤D.n∧D.n≤1024:=by
 have h1:=Nat.pow_le_pow_right (n:=2) (by omega) h.hj.1
 have h2:=h.hn
 exact ⟨by omega,by rw [h2];exact pow_le h.hj.2⟩
theorem mn_W (h:MnOk D) (k:Nat):D.Wf k<200:=by have:=h.hW k;have:=h.hm.2;omega
theorem mn_T (h:MnOk D):D.T<200∧(D.T:Int)<D.most:=by
 have h1:=h.hT
 have h2:=Int.emod_lt_of_pos D.tries h.hm.1
 have h3:=h.hm.2
 omega
theorem seqs_i {n i:Nat} (hi:i<n):seqs n (2+2*i)=i:=by unfold seqs;rw [if_pos (by omega)];omega
theorem seqs_z {n w:Nat} (hw:2*n+2≤w):seqs n w=0:=by unfold seqs;rw [if_neg (by omega)]
theorem mn_begin (h:MnOk D):MrI D.n 1600 (mrSum D.Wf D.pn) ⟨seqs D.n,[],[]⟩ (mrQ D.Wf D.pn D.T D.kp D.kt)∧QE (D.pn+D.tn) (qfO D.Wf D.pn) (fun j=>D.pn≤j) ⟨seqs D.n,[],[]⟩ ((mrQ D.Wf D.pn D.T D.kp D.kt).map MrT.q) :=
 mrQ_begin h.hkp h.hkt (mn_W h) (mn_T h).1 h.hpn (by have:=h.htn;omega) (mn_n h).1 rfl rfl (fun i hi=>seqs_i hi) (seqs_z (by omega)) (seqs_z (by omega)) (seqs_z (by omega))
def mrFd (D:MnD) (h:MnOk D):FreeD (mrGm D.n true D.pb D.tb D.pn D.nc D.mr D.r D.b) where
 q0:=mrQ D.Wf D.pn D.T D.kp D.kt
 N:=mrPhi ⟨seqs D.n,[],[]⟩ (mrQ D.Wf D.pn D.T D.kp D.kt)
 I:=fun s qs=>MrI D.n 1600 (mrSum D.Wf D.pn) s qs∧QE (D.pn+D.tn) (qfO D.Wf D.pn) (fun j=>D.pn≤j) s ((show List MrT from qs).map MrT.q)
 φ:=fun s qs=>mrPhi s qs
 ok:=fun _ _ _=>trivial
 step:=fun s qs j q mk f hI hq hp=>by
  have hT:mrSum D.Wf D.pn<4611686018427387904:=by have:=mrSum_le (mn_W h) D.pn;have:=h.hpn;omega
  obtain ⟨h1,h2,_,h4⟩:=mr_step hI.1 (mn_n h).1 (mn_n h).2 (by omega) hT hq hp
  exact ⟨⟨h1,h4 _ _ _ hI.2⟩,h2⟩
theorem still_play:MnPlay 200 24 [] (fun _=>True):=by
 intro D ta tc F h hmo hrt _
 have hlen:=mrTs_len (fr:=true) h
 rw [← mrTs_M (fr:=true)]
 refine Tr.mono (R:=fun v L' x'=>∃ s qs,(mrFd D h).I s qs∧(∀ q∈qs,(mrGm D.n true D.pb D.tb D.pn D.nc D.mr D.r D.b).plan q=none)∧qs.length=(mrTs D true).length∧v=.bool true∧x'=(MX.idle:MX)∧L'=(mrGm D.n true D.pb D.tb D.pn D.nc D.mr D.r D.b).U s::all (qs.map (mrGm D.n true D.pb D.tb D.pn D.nc D.mr D.r D.b).Fin)::F) ?_ ?_
 ·refine tr_of_body Try.func24 rfl Try.ntmps24 (by simp) fun um Q _ hQ=>?_
  simp only [argE,Nat.zero_add,Nat.reduceAdd]
  repeat (first | refine we_seq ?_ | (refine wR ?_;try simp only [oS]) | refine wo_nil ?_ | refine wM ?_ | refine wA ?_)
  refine wo_call (.cons rfl .nil) trivial (free_trO (g:=mrGm D.n true D.pb D.tb D.pn D.nc D.mr D.r D.b) (fd:=mrFd D h) (ts:=mrTs D true) (s0:=(⟨seqs D.n,[],[]⟩:QS)) (F:=F) (tn:=D.pn+D.tn) mrTs_q (mn_begin h) (Nat.le_refl _) (fun _ _ z=>z) (fun t ht=>?_) (by rw [hlen];exact h.pos) (by rw [hlen];have:=h.hpn;have:=h.htn;omega) (by rw [mrTs_f];exact hrt)) ?_
  ·unfold mrTs at ht
   rcases List.mem_append.1 ht with ht | ht
   ·obtain ⟨i,hi⟩:=List.mem_iff_getElem?.1 ht
    rw [List.getElem?_mapIdx] at hi
    obtain ⟨y,hy,rfl⟩:=Option.map_eq_some_iff.1 hi
    have hlt:i<D.pn:=by have:=(List.getElem?_eq_some_iff.1 hy).1;have:=h.hkp;omega
    exact mP_free h.hne h.hm1 h.hm2 h.hn h.hj hlt h.hpn (mn_W h i) h.O h.OM h.hd
   ·obtain ⟨i,hi⟩:=List.mem_iff_getElem?.1 ht
    rw [List.getElem?_mapIdx] at hi
    obtain ⟨y,hy,rfl⟩:=Option.map_eq_some_iff.1 hi
    have hlt:i<D.tn:=by have:=(List.getElem?_eq_some_iff.1 hy).1;have:=h.hkt;omega
    exact mT_free h.hne h.hm1 h.hm2 h.hn h.hj hlt (by have:=h.htn;omega) h.hm h.hb h.hT h.O h.OM h.hd
  rintro v1 L1 x1 ⟨s,qs,a1,a2,a3,rfl,rfl,rfl⟩
  repeat (first | refine weqlT ?_ | refine wo_nil ?_ | refine wA ?_ | refine we_ret ?_)
  (first | refine or1 Try.func24 Try.results24 hQ rfl ?_ | refine on1 Try.func24 Try.results24 hQ rfl ?_)
  exact ⟨s,qs,a1,a2,a3,rfl,rfl,rfl⟩
 ·rintro v L' x' ⟨s,qs,a1,a2,a3,rfl,rfl,rfl⟩
  exact ⟨true,s,qs,a1.1,a1.2,a2,a3.trans hlen,rfl,rfl,rfl⟩
section
variable {g:Game}
end
end
end
end Go.Proofs.Ytmkkanmkjfnpdaa
namespace Go.Proofs.Ytmkkanmkjfnpdaa
open Go Go.PB
attribute [local irreducible] Mo Bin Eql Tr Wo Ap Wle
section
section
variable {B:Hand} [Lets B] {L F:List HProp} {x:B.X} {mr r b n k nc:Nat} {f:Nat→Nat} {row:List Nat} {Ro:HProp}
theorem width_tr {n:Int} (hn:-9223372036854775808≤n∧n≤9223372036854775807) :
  Tr Try.prog B 26 [.int .i64 n] L x fun v L' x'=>∃ k:Nat,1≤k∧k≤3∧v=.int .i64 ((2^k:Nat):Int)∧L'=L∧x'=x:=by
 have h1:=Int.emod_nonneg n (by omega:(3:Int)≠0)
 have h2:=Int.emod_lt_of_pos n (by omega:(0:Int)<3)
 refine tr_of_body Try.func26 rfl Try.ntmps26 (by simp) fun um Q _ hQ=>?_
 simp only [argE,Nat.zero_add,Nat.reduceAdd]
 repeat (first | refine we_seq ?_ | (refine wR ?_;try simp only [oS]) | refine wo_nil ?_ | refine wM ?_ | refine wA ?_)
 refine wo_call (.cons rfl (.cons rfl .nil)) trivial (within_tr hn (by omega)) ?_
 rintro v L' x' ⟨rfl,rfl,rfl⟩
 obtain ⟨k,hk⟩:∃ k:Nat,n%3=k:=⟨(n%3).toNat,by omega⟩
 rw [hk]
 have hk3:k≤2:=by omega
 have hw:IntKind.i64.wrap (2*2^(min (k:Int).toNat IntKind.i64.bits))=((2^(k+1):Nat):Int):=by
  have:k=0∨k=1∨k=2:=by omega
  rcases this with rfl | rfl | rfl <;> rfl
 repeat (first | (apply wo_po;apply mo_bin;exact rfl;exact rfl;apply bin_shl;omega;exact hw;exact gY) | refine wo_nil ?_ | refine wA ?_ | refine we_ret ?_)
 (first | refine or1 Try.func26 Try.results26 hQ rfl ?_ | refine on1 Try.func26 Try.results26 hQ rfl ?_)
 exact ⟨k+1,by omega,by omega,rfl,rfl,rfl⟩
theorem mkeep_at (h1:r≠b) (h2:mr≠r) (h3:mr≠b) (hn:n=2^k) (hk:k≤10) (O:MrRo Ro mr r b n nc):MirAt (kpAcc x (maddr mr r b n) (2*n+5) (m_apart0 h1 h2 h3) Ro) mr r b n k nc :=
 maddr_at rfl hn hk (fun s {_ _ _} q=>rd_allR (.there q)) O
theorem counts_keep (h1:r≠b) (h2:mr≠r) (h3:mr≠b) (hn:n=2^k) (hk:k≤10) (O:MrRo Ro mr r b n nc) (hh:Has L (all [wds (maddr mr r b n) (2*n+5) [] f,Ro]) F) :
  Tr Try.prog B 21 [.pointer (some ⟨mr,0,none⟩),.nilIface] L x fun w L' x'=>w=.tuple #[.int .u64 (f (2*n+2):Nat),.int .u64 (f (2*n+3):Nat),.int .u64 (f (2*n+4):Nat),.int .i64 0]∧L'=all [wds (maddr mr r b n) (2*n+5) [] f,Ro]::F∧x'=x:=by
 refine (mcounts_tr (A:=kpAcc x (maddr mr r b n) (2*n+5) (m_apart0 h1 h2 h3) Ro) (mkeep_at h1 h2 h3 hn hk O) (s:=f) (G:=fun a b' c s'=>a=f (2*n+2)∧b'=f (2*n+3)∧c=f (2*n+4)∧s'=f) ?_ hh).mono ?_
 ·exact ⟨by show 2*n+2+0<2*n+5;omega,by show 2*n+2+1<2*n+5;omega,by show 2*n+2+2<2*n+5;omega,rfl,rfl,rfl,rfl⟩
 ·rintro w L' x' ⟨_,_,_,_,⟨rfl,rfl,rfl,rfl⟩,rfl,rfl,rfl⟩
  exact ⟨rfl,rfl,rfl⟩
theorem take_keep (h1:r≠b) (h2:mr≠r) (h3:mr≠b) (hn:n=2^k) (hk0:1≤k) (hk:k≤10) (O:MrRo Ro mr r b n nc) (R:RowAt n f row) (hh:Has L (all [wds (maddr mr r b n) (2*n+5) [] f,Ro]) F) :
  Tr Try.prog B 20 [.pointer (some ⟨mr,0,none⟩),.nilIface] L x fun w L' x'=>∃ f',RowAt n f' row.tail∧(f' (2*n+2)=f (2*n+2)∧f' (2*n+3)=f (2*n+3)∧f' (2*n+4)=(if row=[] then f (2*n+4) else (f (2*n+4)+1)%18446744073709551616)) ∧
   w=.tuple #[.int .u64 (row.head?.getD 0:Nat),.bool row.head?.isSome,.int .i64 0]∧L'=all [wds (maddr mr r b n) (2*n+5) [] f',Ro]::F∧x'=x:=by
 have hpos:2≤n:=by have:=Nat.pow_le_pow_right (n:=2) (by omega) hk0;omega
 refine (mtake_tr (A:=kpAcc x (maddr mr r b n) (2*n+5) (m_apart0 h1 h2 h3) Ro) (mkeep_at h1 h2 h3 hn hk O) (s:=f) (Q:=fun o f'=>o=row.head?∧RowAt n f' row.tail∧f' (2*n+2)=f (2*n+2)∧f' (2*n+3)=f (2*n+3)∧f' (2*n+4)=(if row=[] then f (2*n+4) else (f (2*n+4)+1)%18446744073709551616)) ?_ hh).mono ?_
 ·show MTakeT (loneAcc x (maddr mr r b n) (2*n+5) [] (m_apart0 h1 h2 h3)) n f (fun o f'=>o=row.head?∧RowAt n f' row.tail∧f' (2*n+2)=f (2*n+2)∧f' (2*n+3)=f (2*n+3)∧f' (2*n+4)=(if row=[] then f (2*n+4) else (f (2*n+4)+1)%18446744073709551616))
  refine take_rowG (x:=x) (ap:=m_apart0 h1 h2 h3) (N:=2*n+5) (by omega) hn hk0 hk R fun f' R' hs=>?_
  have e0:=hs (2*n+2) (by omega)
  have e1:=hs (2*n+3) (by omega)
  have e2:=hs (2*n+4) (by omega)
  cases row with
  | nil=>exact ⟨rfl,R',e0,e1,by rw [if_pos rfl];exact e2⟩
  | cons y l =>
   refine ⟨by show 2*n+2+2<2*n+5;omega,?_⟩
   refine ⟨rfl,rowAt_same (by omega) (by omega) R',?_,?_,?_⟩
   ·rw [upd_other (by omega)];exact e0
   ·rw [upd_other (by omega)];exact e1
   ·rw [if_neg (by simp),upd_same,show 2*n+2+2=2*n+4 from rfl,e2]
 ·rintro w L' x' ⟨o,f',⟨rfl,q1,q2,q3,q4⟩,_,rfl,rfl,rfl⟩
  exact ⟨f',q1,⟨q2,q3,q4⟩,rfl,rfl,rfl⟩
end
end
end Go.Proofs.Ytmkkanmkjfnpdaa
namespace Go.Proofs.Ytmkkanmkjfnpdaa
open Go Go.PB
attribute [local irreducible] Mo Bin Eql Tr Wo Ap Wle
attribute [local instance] Pass.of_no
section
abbrev ints (l:List Int):List Value:=l.map fun k=>.int .i64 k
theorem star_trueQ {L:List HProp} {h:Hp} (st:Star L h):Star ((fun _=>True)::L) h :=
 star_shut (M:=[]) st
theorem star_p {p:Prop} (hp:p) {L:List HProp} {h:Hp} (st:Star L h):Star ((fun _=>p)::L) h :=
 star_map (star_trueQ st) (fun _ _=>hp) fun _ z=>z
theorem hdr_there {L:List HProp} {c:HProp} {vs:List Value} {ls:List (List Nat)} (h:HdrOk L vs ls):HdrOk (c::L) vs ls :=
 ⟨h.1,fun i l hi=>let ⟨a,c',h1,h2⟩:=h.2 i l hi;⟨a,c',h1,h2.there⟩⟩
section
variable {pn tn yb mb qb pB tB:Nat} {pv:Value} {Wf:Nat→Nat} {L:List HProp}
def mnL1 (pv:Value) (pn tn yb mb qb pB tB:Nat) (Wf:Nat→Nat) (L:List HProp):PB.Inv (Nat × Value × List (Nat × Nat) × Nat) MX where
 e:=fun i=>[(2,pv),(3,.pointer (some ⟨yb,0,none⟩)),(4,.pointer (some ⟨mb,0,none⟩)),(7,.pointer (some ⟨qb,0,none⟩)),(9,.int .i64 (pn:Nat)),(10,.int .i64 (tn:Nat)),(11,.pointer (some ⟨pB,0,none⟩)),(12,.pointer (some ⟨tB,0,none⟩)),(13,.int .i64 (mrSum Wf i.1:Nat)),(14,i.2.1),(15,.pointer (some ⟨i.2.2.2,0,none⟩))]
 L:=fun i=>vec 1 i.2.1 (i.2.2.1.map fun y=>mpF y.1 y.2 qb pB)::all (mpBs Wf i.2.2.1)::arr i.2.2.2 0 [.int .i64 (i.1:Nat)]::L
 x:=fun _=>.idle
 ok:=fun i=>i.1≤pn∧i.2.2.1.length=i.1
def mnJ (pv:Value) (pn tn yb mb qb pB tB:Nat) (Wf:Nat→Nat) (ta:Option Addr) (tc kb:Nat) (ks:List (Nat × Nat)) (L:List HProp):PB.Inv Nat MX where
 e:=fun xb=>[(2,pv),(3,.pointer (some ⟨yb,0,none⟩)),(4,.pointer (some ⟨mb,0,none⟩)),(7,.pointer (some ⟨qb,0,none⟩)),(9,.int .i64 (pn:Nat)),(10,.int .i64 (tn:Nat)),(11,.pointer (some ⟨pB,0,none⟩)),(12,.pointer (some ⟨tB,0,none⟩)),(13,.int .i64 (mrSum Wf ks.length:Nat)),(14,.slice ta ks.length tc),(15,.pointer (some ⟨kb,0,none⟩)),(16,.pointer (some ⟨xb,0,none⟩))]
 L:=fun xb=>arr xb 0 [.int .i64 (Wf ks.length:Nat)]::vec 1 (.slice ta ks.length tc) (ks.map fun y=>mpF y.1 y.2 qb pB)::all (mpBs Wf ks)::arr kb 0 [.int .i64 (ks.length:Nat)]::L
 x:=fun _=>.idle
 ok:=fun _=>True
def mnL2 (pv:Value) (pn tn yb mb qb pB tB T:Nat) (kp:List (Nat × Nat)) (L:List HProp):PB.Inv (Nat × Value × List Nat × Nat) MX where
 e:=fun i=>[(2,pv),(3,.pointer (some ⟨yb,0,none⟩)),(4,.pointer (some ⟨mb,0,none⟩)),(7,.pointer (some ⟨qb,0,none⟩)),(9,.int .i64 (pn:Nat)),(10,.int .i64 (tn:Nat)),(11,.pointer (some ⟨pB,0,none⟩)),(12,.pointer (some ⟨tB,0,none⟩)),(13,.int .i64 (T:Nat)),(14,i.2.1),(17,.pointer (some ⟨i.2.2.2,0,none⟩))]
 L:=fun i=>vec 1 i.2.1 ((kp.map fun y=>mpF y.1 y.2 qb pB)++i.2.2.1.map fun kb=>mtF yb mb qb tB kb)::all (mtBs i.2.2.1)::arr i.2.2.2 0 [.int .i64 (i.1:Nat)]::L
 x:=fun _=>.idle
 ok:=fun i=>i.1≤tn∧i.2.2.1.length=i.1
end
structure MnEnd (D:MnD) (s:QS):Prop where
 off:s.f (2*D.n+2)=mrSum D.Wf D.pn
 ref:s.f (2*D.n+3)+s.vs.length=mrSum D.Wf D.pn
 tak:s.f (2*D.n+4)=s.tk.length
 le:s.tk.length≤s.vs.length
 put:sumN ((qPs s D.pn).map List.length)=s.vs.length
 tk:sumN ((qTs s D.pn D.tn).map List.length)=s.tk.length
 left:(qLeft s).length=s.vs.length-s.tk.length
 row:RowAt D.n s.f (qLeft s)
 kept:KeptA (prs (qPs s D.pn)) (qTs s D.pn D.tn++[qLeft s])
 nd:(qPs s D.pn).flatten.Nodup
 val:∀ v∈(qPs s D.pn).flatten,v<18446744073709551616
 len:∀ l∈qTs s D.pn D.tn++[qLeft s],l.length≤1600
 flat:(qPs s D.pn).flatten.length≤D.pn*1600
 sum:mrSum D.Wf D.pn≤200*D.pn
theorem mn_end {D:MnD} (h:MnOk D) {s:QS} {qs:List MrT} {fr:Bool} (hI:MrI D.n 1600 (mrSum D.Wf D.pn) s qs) (hE:QE (D.pn+D.tn) (qfO D.Wf D.pn) (fun j=>D.pn≤j) s (qs.map MrT.q)) (hdn:∀ q∈qs,mrPlan D.n fr q=none):MnEnd D s:=by
 obtain ⟨m1,m2,m3,m4⟩:=mr_end hI hdn
 obtain ⟨k1,k2,k3,k4,k5⟩:=q_kept (pn:=D.pn) (off:=D.pn) (tn:=D.tn) (key:=fun v=>v/4294967296) hI.q hE m1 (qfO_ok (mn_W h)) (fun j hj hT=>⟨hT,by omega⟩)
 have hput:∀ j,j<D.pn+D.tn→(putBy s j).Sublist (qfO D.Wf D.pn j):=fun j hj=>by
  have hlt:j<(qs.map MrT.q).length:=by rw [hE.len];exact hj
  have hq:=List.getElem?_eq_getElem hlt
  have hc:=m1 _ (List.getElem_mem hlt)
  have e1:=hI.q.pas j _ hq
  have e2:pendP ((qs.map MrT.q)[j])=[]:=by unfold pendP;rw [hc]
  rw [e2,List.append_nil] at e1
  obtain ⟨_,e3,_⟩:=hE.sub j _ hq
  rw [hc] at e3
  rw [e1];simpa using e3
 have hown:∀ x∈s.vs,x.1<D.pn:=fun x hx=>Nat.lt_of_not_le fun hle=>by
  have h1:x.2∈putBy s x.1:=by unfold putBy;exact List.mem_map.2 ⟨x,List.mem_filter.2 ⟨hx,by simp⟩,rfl⟩
  have h2:=(hput x.1 (hE.own x hx)).subset h1
  rw [(qfO_ok (mn_W h) x.1).2.2 hle] at h2;simp at h2
 obtain ⟨s1,s2,s3⟩:=mr_sums (pn:=D.pn) (off:=D.pn) (tn:=D.tn) hI.q hE hown (fun j hj hT=>⟨hT,by omega⟩)
 have hsum:=mrSum_le (mn_W h) D.pn
 refine ⟨m2,m3,m4,hI.q.le,s1,s2,s3,hI.q.row (mn_n h).1 (mn_n h).2 (by omega) m1,k1,k2,fun v hv=>?_,k4,k5,hsum⟩
 obtain ⟨j',hj'⟩:=k3 v hv
 unfold qfO at hj'
 split at hj'
 ·obtain ⟨i',hi',rfl⟩:=List.mem_map.1 hj'
  have:=List.mem_range.1 hi'
  have:=mn_W h j'
  have:=h.hpn
  unfold qVal;omega
 ·simp at hj'
section
variable {pn tn qb pB tB:Nat}
theorem sum_take {l:List (List Nat)} {k:Nat} {y:List Nat} (h:l[k]?=some y):sumN ((l.take (k+1)).map List.length)=sumN ((l.take k).map List.length)+y.length:=by
 rw [List.take_add_one,h,Option.toList_some,List.map_append,sum_app];simp [sumN]
theorem sum_upto {l:List (List Nat)}:∀ k:Nat,sumN ((l.take k).map List.length)≤sumN (l.map List.length):=fun k=>by
 have h:l.map List.length=(l.take k).map List.length++(l.drop k).map List.length:=by rw [← List.map_append,List.take_append_drop]
 rw [h,sum_app];omega
def mnL3 (pn tn qb pB tB T a0 a1 a2 mr r b n:Nat) (Ro:HProp) (left:List Nat) (R:List HProp):PB.Inv ((Nat→Nat) × List Nat × List Nat × Value) MX where
 e:=fun i=>[(7,.pointer (some ⟨qb,0,none⟩)),(8,.int .i64 0),(9,.int .i64 (pn:Nat)),(10,.int .i64 (tn:Nat)),(11,.pointer (some ⟨pB,0,none⟩)),(12,.pointer (some ⟨tB,0,none⟩)),(13,.int .i64 (T:Nat)),(18,.int .u64 (a0:Nat)),(19,.int .u64 (a1:Nat)),(20,.int .u64 (a2:Nat)),(21,i.2.2.2)]
 L:=fun i=>vec 1 i.2.2.2 (i.2.2.1.map num)::all [wds (maddr mr r b n) (2*n+5) [] i.1,Ro]::R
 x:=fun _=>.idle
 ok:=fun i=>RowAt n i.1 i.2.1∧i.2.2.1++i.2.1=left∧i.1 (2*n+2)=a0∧i.1 (2*n+3)=a1∧i.1 (2*n+4)=a2+i.2.2.1.length
def mnL4 (pn tn qb pB tB T a0 a1 a2:Nat) (tv:Value) (ps:List (List Nat)) (R:List HProp):PB.Inv Nat MX where
 e:=fun i=>[(7,.pointer (some ⟨qb,0,none⟩)),(8,.int .i64 0),(9,.int .i64 (pn:Nat)),(10,.int .i64 (tn:Nat)),(11,.pointer (some ⟨pB,0,none⟩)),(12,.pointer (some ⟨tB,0,none⟩)),(13,.int .i64 (T:Nat)),(18,.int .u64 (a0:Nat)),(19,.int .u64 (a1:Nat)),(20,.int .u64 (a2:Nat)),(21,tv),(25,.int .i64 (sumN ((ps.take i).map List.length):Nat)),(26,.int .i64 (i:Nat))]
 L:=fun _=>R
 x:=fun _=>.idle
 ok:=fun i=>i≤pn
def mnL5 (pn tn qb pB tB T a0 a1 a2 V:Nat) (tv:Value) (ts:List (List Nat)) (R:List HProp):PB.Inv Nat MX where
 e:=fun i=>[(7,.pointer (some ⟨qb,0,none⟩)),(8,.int .i64 0),(9,.int .i64 (pn:Nat)),(10,.int .i64 (tn:Nat)),(11,.pointer (some ⟨pB,0,none⟩)),(12,.pointer (some ⟨tB,0,none⟩)),(13,.int .i64 (T:Nat)),(18,.int .u64 (a0:Nat)),(19,.int .u64 (a1:Nat)),(20,.int .u64 (a2:Nat)),(21,tv),(25,.int .i64 ((V-sumN ((ts.take i).map List.length):Nat):Int)),(27,.int .i64 (i:Nat))]
 L:=fun _=>R
 x:=fun _=>.idle
 ok:=fun i=>i≤tn
end
set_option maxHeartbeats 4000000 in
theorem many_tr {most:Int} {mf:Nat} {cap:List Value} {P:List HProp→Prop} (hplay:MnPlay most mf cap P) (hm:0<most∧most≤200) [en:Ent' Try.prog mf] {L:List HProp} {a:Option Addr} {n0 c:Nat} {l:List Int} {sl tk tr:Int} (hL:Dup (all L)) (hP:∀ M:List HProp,(∀ {b o:Nat} {v:Value},Rd L b o v→Rd M b o v)→P M)
  (hr0:RdsO L a n0 (ints l)) (hlb:∀ v∈l,-9223372036854775808≤v∧v≤9223372036854775807) (hb:n0≤9223372036854775807)
  (h0:-9223372036854775808≤sl∧sl≤9223372036854775807) (h2:-9223372036854775808≤tk∧tk≤9223372036854775807) (h3:-9223372036854775808≤tr∧tr≤9223372036854775807) :
  Tr Try.prog mT 23 [.agg #[.int .i64 sl,.slice a n0 c,.int .i64 tk,.int .i64 tr],.int .i64 most,.func (.func mf) #[] cap.toArray] L .idle fun v L' x'=>v=.bool true∧x'=.idle:=by
 have hn0:n0=l.length:=by have:=hr0.1;simpa using this
 refine tr_of_body Try.func23 rfl Try.ntmps23 (by simp) fun um Q _ hQ=>?_
 simp only [argE,Nat.zero_add,Nat.reduceAdd]
 repeat (first | (apply wo_mo;apply mo_box;exact rfl;exact trivial) | refine we_seq ?_ | (refine wR ?_;try simp only [oS]))
 rintro v' L' ⟨yb,rfl,rfl⟩
 refine wo_ent (arr yb 0 [.int .i64 sl,.slice a n0 c,.int .i64 tk,.int .i64 tr]::L) .refl ?_
 repeat (first | (apply wo_mo;apply mo_box;exact rfl;exact trivial))
 rintro v' L' ⟨mb,rfl,rfl⟩
 repeat (first | refine we_seq ?_ | (refine wR ?_;try simp only [oS]) | refine wo_nil ?_ | refine wA ?_ | refine wD ?_ | refine wL ?_)
 refine wo_call (.cons rfl .nil) trivial (width_tr h0) ?_
 rintro v1 L1 x1 ⟨j,hj1,hj3,rfl,rfl,rfl⟩
 skip
 refine wo_call (.cons rfl .nil) trivial (mnew_tr (n:=2^j) rfl hj1 (by omega)) ?_
 rintro v1 L1 x1 ⟨mr,r,b,nc,hne,hm1,hm2,rfl,rfl,rfl⟩
 repeat (first | (apply wo_mo;apply mo_alloc;exact trivial) | refine wM ?_ | (apply wo_po;apply mo_extract;exact rfl;exact rfl;exact gY))
 rintro v' L' ⟨qb,rfl,rfl⟩
 repeat (first | refine wS ?_ | refine wneqF ?_ | refine we_seq ?_ | (refine wR ?_;try simp only [oS]) | refine wo_nil ?_ | refine wM ?_ | refine wA ?_ | refine wD ?_ | refine wL ?_ | refine wE ?_ | (apply wo_po;apply mo_min;exact rfl;exact rfl;exact gY) | refine wF ?_ | refine we_skip ?_)
 obtain ⟨pn,hpn⟩:∃ pn:Nat,min ((n0:Nat):Int) 4=pn:=⟨(min ((n0:Nat):Int) 4).toNat,by omega⟩
 have hpn4:pn≤4:=by omega
 have hpn0:pn≤n0:=by omega
 skip
 rw [hpn]
 refine wo_call (.cons rfl (.cons rfl .nil)) trivial (within_tr h2 (by omega)) ?_
 rintro v1 L1 x1 ⟨rfl,rfl,rfl⟩
 have e1:=Int.emod_nonneg tk (by decide:(4:Int)≠0)
 have e2:=Int.emod_lt_of_pos tk (by decide:(0:Int)<4)
 obtain ⟨tn,htn⟩:∃ tn:Nat,tk%4=tn:=⟨(tk%4).toNat,by omega⟩
 rw [htn]
 have htn3:tn≤3:=by omega
 have e3:=Int.emod_nonneg tr (by omega:most≠0)
 have e4:=Int.emod_lt_of_pos tr hm.1
 obtain ⟨T,hT⟩:∃ T:Nat,tr%most=T:=⟨(tr%most).toNat,by omega⟩
 repeat (first | (apply wo_mo;apply mo_make (n:=pn);exact rfl;exact rfl;exact rfl;omega;omega;exact trivial) | refine we_seq ?_ | (refine wR ?_;try simp only [oS]) | refine wo_nil ?_ | refine wM ?_ | refine wA ?_)
 rintro v' L' ⟨pb,rfl,rfl⟩
 repeat (first | (apply wo_mo;apply mo_alloc;exact trivial))
 rintro v' L' ⟨pB,rfl,rfl⟩
 repeat (first | refine wS ?_ | refine we_seq ?_ | (refine wR ?_;try simp only [oS]) | refine wo_nil ?_ | refine wM ?_)
 repeat (first | (apply wo_mo;apply mo_make (n:=tn);exact rfl;exact rfl;exact rfl;omega;omega;exact trivial))
 rintro v' L' ⟨tb,rfl,rfl⟩
 repeat (first | (apply wo_mo;apply mo_alloc;exact trivial))
 rintro v' L' ⟨tB,rfl,rfl⟩
 repeat (first | refine wS ?_ | refine we_seq ?_ | (refine wR ?_;try simp only [oS]) | refine wo_nil ?_ | refine wA ?_)
 repeat (first | (apply wo_mo;apply mo_alloc;exact trivial))
 rintro v' L' ⟨kb,rfl,rfl⟩
 repeat (first | refine wS ?_ | refine wo_nil ?_ | refine we_block ?_)
 let Wf:Nat→Nat:=fun k=>Int.toNat ((l[k]?).getD 0%most)
 let L3:List HProp:=arr tB 0 [.slice (some ⟨tb,0,none⟩) tn tn]::arr tb 0 (zeros tn [.slice none 0 0])::arr pB 0 [.slice (some ⟨pb,0,none⟩) pn pn]::arr pb 0 (zeros pn [.slice none 0 0])::arr qb 0 [.pointer (some ⟨mr,0,none⟩)] ::
  wds (maddr mr r b (2^j)) (2*2^j+5) (mK mr r b (2^j) nc) (seqs (2^j))::newsC nc::arr mb 0 [.int .i64 most]::arr yb 0 [.int .i64 sl,.slice a n0 c,.int .i64 tk,.int .i64 tr]::L
 let pv:Value:=.func (.func mf) #[] cap.toArray
 refine we_star (vec 1 (.slice none 0 0) (([]:List (Nat × Nat)).map fun y=>mpF y.1 y.2 qb pB)::all (mpBs Wf [])::arr kb 0 [.int .i64 ((0:Nat):Int)]::L3) (fun h st=>vec_nil (star_shut (M:=[]) st)) ?_
 refine we_loopN (mnL1 pv pn tn yb mb qb pB tB Wf L3) (fun i=>pn-i.1) (0,.slice none 0 0,[],kb) ⟨Nat.zero_le _,rfl⟩ ⟨rfl,rfl,rfl,rfl,rfl,rfl,rfl,rfl,rfl,rfl,rfl,trivial⟩ .refl rfl ?_
 rintro ⟨i,tv,ks,kb⟩ ⟨hi,hks⟩
 simp only at hi hks
 subst hks
 simp only [mnL1]
 have hW1:∀ k,k<pn→(l[k]?).getD 0%most=((Wf k:Nat):Int):=fun k _=>by
  have:=Int.emod_nonneg ((l[k]?).getD 0) (by omega:most≠0)
  show _=((Int.toNat ((l[k]?).getD 0%most):Nat):Int)
  omega
 have hW2:∀ k,((Wf k:Nat):Int)<most:=fun k=>by
  have:=Int.emod_lt_of_pos ((l[k]?).getD 0) hm.1
  show ((Int.toNat ((l[k]?).getD 0%most):Nat):Int)<most
  omega
 have hW3:∀ k,Wf k<200:=fun k=>by have:=hW2 k;omega
 have hlk:∀ k,k<pn→-9223372036854775808≤(l[k]?).getD 0∧(l[k]?).getD 0≤9223372036854775807:=fun k hk=>by
  rw [List.getElem?_eq_getElem (show k<l.length by omega)]
  exact hlb _ (List.getElem_mem _)
 refine we_pure (of_has .here (vec_shape (by omega))) ?_
 rintro ⟨ta,tn0,tc,rfl,htn0,_,htz,hty⟩
 have htn0:tn0=ks.length:=by simp at htn0;omega
 subst htn0
 by_cases hlt:ks.length<pn
 ·obtain ⟨ab,ao,rfl,hrd⟩:=hr0.rds (by omega)
  have r1:=hrd ks.length (.int .i64 ((l[ks.length]?).getD 0)) (by rw [List.getElem?_map,List.getElem?_eq_getElem (show ks.length<l.length by omega)];rfl)
  repeat (first | refine wlssT ?_ | refine we_seq ?_ | (refine wR ?_;try simp only [oS]) | refine wo_nil ?_ | refine wM ?_ | refine wL ?_ | refine wT ?_ | refine we_skip ?_ | refine we_block ?_)
  refine we_join (mnJ pv pn tn yb mb qb pB tB Wf ta tc kb ks L3) ?_ ?_
  ·refine we_draw (List.range' 0 9) (by kernel_rfl) ?_
   have z1:∀ {F G:List HProp},Has F (arr yb 0 [.int .i64 sl,.slice (some ⟨ab,ao,none⟩) n0 c,.int .i64 tk,.int .i64 tr]) G→Rd F yb 1 (.slice (some ⟨ab,ao,none⟩) n0 c):=fun hF=>Rd.of hF (Rd.row0 rfl)
   have z2:∀ {F G:List HProp},Has F (arr kb 0 [.int .i64 (ks.length:Nat)]) G→Rd F kb 0 (.int .i64 (ks.length:Nat)):=fun hF=>Rd.of hF (Rd.row0 rfl)
   have z3:∀ {F G:List HProp},Has F (arr mb 0 [.int .i64 most]) G→Rd F mb 0 (.int .i64 most):=fun hF=>Rd.of hF (Rd.row0 rfl)
   have z4:Rd (vec 1 (.slice ta ks.length tc) (ks.map fun y=>mpF y.1 y.2 qb pB)::all (mpBs Wf ks)::arr kb 0 [.int .i64 (ks.length:Nat)]::L3) ab (ao+ks.length) (.int .i64 ((l[ks.length]?).getD 0)):=.there (.there (.there (.there (.there (.there (.there (.there (.there (.there (.there (.there r1)))))))))))
   repeat (first | (apply ap_read;exact rfl;exact rfl;exact trivial;apply mo_load;exact rfl;exact z1 (.there (.there (.there (.there (.there (.there (.there (.there (.there (.there (.there .here)))))))))))) | (apply ap_read;exact rfl;exact rfl;exact trivial;apply mo_load;exact rfl;exact z2 (.there (.there .here))) | (apply ap_pure;exact rfl;exact rfl;exact trivial;intro L;apply mo_index1;exact rfl;exact rfl;omega) | (apply ap_read;exact rfl;exact rfl;exact trivial;apply mo_load;exact rfl;exact z4) | (apply ap_read;exact rfl;exact rfl;exact trivial;apply mo_load;exact rfl;exact z3 (.there (.there (.there (.there (.there (.there (.there (.there (.there (.there .here))))))))))) | refine aD ?_)
   refine ap_fork (f:=7) (ord':=[0,1,2,3,4,5,7,6,8]) (by kernel_rfl) (by kernel_rfl) (by kernel_rfl) (by kernel_rfl) ?_ ?_
   ·refine ap1_call (Pd':=[]) rfl (by kernel_rfl) trivial rfl rfl (.cons rfl (.cons rfl .nil)) (within_tr (hlk _ hlt) (by omega)) (fun v L' x' _ p hp=>by cases hp) ?_
    rintro v L' x' ⟨rfl,rfl,rfl⟩
    refine ap_loudR (Pd':=[]) rfl rfl rfl (by kernel_rfl) trivial mo_alloc (fun v L' _ p hp=>by cases hp) ?_
    rintro v L' ⟨xb,rfl,rfl⟩
    rw [hW1 _ hlt]
    refine ap_loud rfl rfl rfl rfl rfl trivial (mo_store rfl rfl rfl (Wt.row0 (k:=0) (vs:=[.int .i64 0]) .here (Nat.lt_succ_self 0))) ?_
    rintro v' L' ⟨rfl,rfl⟩
    repeat (first | refine ap_end ?_)
    refine at_midS (B:=mT) (I:=mnJ pv pn tn yb mb qb pB tB Wf ta tc kb ks L3) xb trivial ⟨rfl,rfl,rfl,rfl,rfl,rfl,rfl,rfl,rfl,rfl,rfl,rfl,trivial⟩ (fun h st=>st) rfl
   ·refine ap1_mo rfl rfl rfl trivial mo_alloc ?_ ?_
    ·rintro v L' ⟨xb,rfl,rfl⟩ p hp
     replace hp:=(List.mem_filter.1 hp).1
     simp only [List.mem_cons,List.not_mem_nil,or_false] at hp
     repeat (obtain rfl | hp:=hp;(· first | exact .inl rfl | exact .inr ⟨_,rfl,trivial,mo_load rfl (z1 (.there (.there (.there (.there (.there (.there (.there (.there (.there (.there (.there (.there .here)))))))))))))⟩ | exact .inr ⟨_,rfl,trivial,mo_load rfl (z2 (.there (.there (.there .here))))⟩ | exact .inr ⟨_,rfl,trivial,mo_load rfl (z3 (.there (.there (.there (.there (.there (.there (.there (.there (.there (.there (.there .here))))))))))))⟩ | exact .inr ⟨_,rfl,trivial,mo_load rfl z4.there⟩))
     all_goals (subst hp;first | exact .inl rfl | exact .inr ⟨_,rfl,trivial,mo_load rfl (z1 (.there (.there (.there (.there (.there (.there (.there (.there (.there (.there (.there (.there .here)))))))))))))⟩ | exact .inr ⟨_,rfl,trivial,mo_load rfl (z2 (.there (.there (.there .here))))⟩ | exact .inr ⟨_,rfl,trivial,mo_load rfl (z3 (.there (.there (.there (.there (.there (.there (.there (.there (.there (.there (.there .here))))))))))))⟩ | exact .inr ⟨_,rfl,trivial,mo_load rfl z4.there⟩)
    rintro v L' ⟨xb,rfl,rfl⟩
    refine ap_callR (Pd':=[]) rfl rfl (by kernel_rfl) trivial rfl rfl (.cons rfl (.cons rfl .nil)) (within_tr (hlk _ hlt) (by omega)) (fun v L' x' _ p hp=>by cases hp) ?_
    rintro v L' x' ⟨rfl,rfl,rfl⟩
    rw [hW1 _ hlt]
    refine ap_loud rfl rfl rfl rfl rfl trivial (mo_store rfl rfl rfl (Wt.row0 (k:=0) (vs:=[.int .i64 0]) .here (Nat.lt_succ_self 0))) ?_
    rintro v' L' ⟨rfl,rfl⟩
    repeat (first | refine ap_end ?_)
    refine at_midS (B:=mT) (I:=mnJ pv pn tn yb mb qb pB tB Wf ta tc kb ks L3) xb trivial ⟨rfl,rfl,rfl,rfl,rfl,rfl,rfl,rfl,rfl,rfl,rfl,rfl,trivial⟩ (fun h st=>st) rfl
  rintro xb _
  simp only [mnJ]
  have hsum:=mrSum_le hW3 ks.length
  have hW4:=hW3 ks.length
  have hms:mrSum Wf (ks.length+1)=mrSum Wf ks.length+Wf ks.length:=mrSum_succ
  have w1:IntKind.i64.wrap ((mrSum Wf ks.length:Nat)+(Wf ks.length:Nat):Int)=((mrSum Wf (ks.length+1):Nat):Int):=(wrap_i64 (by omega) (by omega)).trans (by omega)
  have w2:IntKind.i64.wrap (((ks.length:Nat):Int)+1)=((ks.length+1:Nat):Int):=(wrap_i64 (by omega) (by omega)).trans (by omega)
  repeat (first | (apply wo_po;apply mo_bin;exact rfl;exact rfl;apply bin_add;(first | exact w1 | exact w2);exact trivial) | (apply wo_po;apply mo_makeFunc (first:=[]) (cap:=[_,_,_,_]) (vf:=[]);exact .nil;exact .cons rfl (.cons rfl (.cons rfl (.cons rfl .nil)));exact trivial) | (apply wo_mo;apply mo_buildSlice (sz:=1) (vs:=[mpF xb kb qb pB]);exact rfl;exact .cons rfl .nil;exact rfl;(intro v hv;cases (List.mem_singleton.1 hv);exact rfl);omega;exact trivial) | refine we_seq ?_ | (refine wR ?_;try simp only [oS]) | refine wo_nil ?_ | refine wM ?_ | refine wA ?_ | refine wL ?_)
  rintro v' L' ⟨nb2,rfl,rfl⟩
  repeat (first | (apply wo_mo;apply mo_append (sz:=1) (new:=[mpF xb kb qb pB]);exact rfl;exact rfl;exact rfl;exact rfl;exact (.there (.there .here));exact rfl;exact .inr ⟨_,_,rfl,Rds.all .here⟩;(intro v hv;cases (List.mem_singleton.1 hv);exact rfl);(simp only [sliceLen];omega);exact trivial))
  rintro v' L' rfl
  repeat (first | (apply wo_mo;apply mo_alloc;exact trivial) | refine we_seq ?_ | (refine wR ?_;try simp only [oS]) | refine wo_nil ?_ | refine wA ?_ | refine wL ?_)
  rintro w' L' ⟨kb2,rfl,rfl⟩
  repeat (first | (apply wo_po;apply mo_bin;exact rfl;exact rfl;apply bin_add;(first | exact w1 | exact w2);exact trivial) | refine wS ?_ | (refine wR ?_;try simp only [oS]) | refine wo_nil ?_ | refine wL ?_)
  refine at_roundS (B:=mT) (I:=mnL1 pv pn tn yb mb qb pB tB Wf L3) (R:=fun j=>pn-j.1<pn-ks.length) (ks.length+1,v',ks++[(xb,kb)],kb2) (by show pn-(ks.length+1)<pn-ks.length;omega) ⟨by show ks.length+1≤pn;omega,by simp⟩ ⟨rfl,rfl,rfl,rfl,rfl,rfl,rfl,rfl,rfl,rfl,rfl,trivial⟩ (fun h st=>?_) rfl
  show Star (vec 1 v' ((ks++[(xb,kb)]).map fun y=>mpF y.1 y.2 qb pB)::all (mpBs Wf (ks++[(xb,kb)]))::arr kb2 0 [.int .i64 ((ks.length+1:Nat):Int)]::L3) h
  rw [mpBs_snoc,List.map_append]
  have s1:Star (arr xb 0 [.int .i64 (Wf ks.length:Nat)]::arr kb 0 [.int .i64 (ks.length:Nat)]::all (mpBs Wf ks)::vec 1 v' ((ks.map fun y=>mpF y.1 y.2 qb pB)++[mpF xb kb qb pB])::arr kb2 0 [.int .i64 ((ks.length+1:Nat):Int)]::L3) h:=Ent.star (.take (.there (.there (.there .here))) (.take (.there (.there (.there (.there .here)))) (.take (.there (.there (.there .here))) (.take (.there .here) (.take .here (.drop .refl)))))) st
  have s2:Star (mrBx xb kb (Wf ks.length) ks.length::all (mpBs Wf ks)::vec 1 v' ((ks.map fun y=>mpF y.1 y.2 qb pB)++[mpF xb kb qb pB])::arr kb2 0 [.int .i64 ((ks.length+1:Nat):Int)]::L3) h:=star_shut (M:=[_,_]) s1
  have s3:=star_push s2
  exact Ent.star (.take (.there .here) (.take .here (.take .here .refl))) s3
 obtain hke:ks.length=pn:=by omega
 repeat (first | (apply wo_mo;apply mo_alloc;exact trivial) | refine wlssF ?_ | refine we_seq ?_ | (refine wR ?_;try simp only [oS]) | refine wo_nil ?_ | refine wM ?_ | refine wL ?_ | refine wF ?_ | refine we_exit ?_)
 rintro w' L' ⟨kb3,rfl,rfl⟩
 repeat (first | refine wS ?_ | refine wo_nil ?_ | refine we_block ?_)
 let L4:List HProp:=all (mpBs Wf ks)::L3
 refine we_star (vec 1 (.slice ta ks.length tc) ((ks.map fun y=>mpF y.1 y.2 qb pB)++([]:List Nat).map fun kb=>mtF yb mb qb tB kb)::all (mtBs [])::arr kb3 0 [.int .i64 ((0:Nat):Int)]::L4) (fun h st=>?_) ?_
 ·have s1:Star (vec 1 (.slice ta ks.length tc) (ks.map fun y=>mpF y.1 y.2 qb pB)::arr kb3 0 [.int .i64 ((0:Nat):Int)]::all (mpBs Wf ks)::L3) h:=Ent.star (.take (.there .here) (.take .here (.take .here (.drop .refl)))) st
  rw [List.map_nil,List.append_nil]
  have s2:Star (all []::vec 1 (.slice ta ks.length tc) (ks.map fun y=>mpF y.1 y.2 qb pB)::arr kb3 0 [.int .i64 ((0:Nat):Int)]::all (mpBs Wf ks)::L3) h:=star_shut (M:=[]) s1
  exact Ent.star (.take (.there .here) (.take .here (.take .here .refl))) s2
 refine we_loopN (mnL2 pv pn tn yb mb qb pB tB (mrSum Wf ks.length) ks L4) (fun i=>tn-i.1) (0,.slice ta ks.length tc,[],kb3) ⟨Nat.zero_le _,rfl⟩ ⟨rfl,rfl,rfl,rfl,rfl,rfl,rfl,rfl,rfl,rfl,rfl,trivial⟩ .refl rfl ?_
 clear htz hty
 rintro ⟨i,tv,kt,kb⟩ ⟨hi2,hkt⟩
 simp only at hi2 hkt
 subst hkt
 simp only [mnL2]
 refine we_pure (of_has .here (vec_shape (by omega))) ?_
 rintro ⟨ta,tn0,tc,rfl,htn0,_,htz,hty⟩
 have htn0:tn0=ks.length+kt.length:=by simp at htn0;omega
 subst htn0
 by_cases hlt2:kt.length<tn
 ·have w2:IntKind.i64.wrap (((kt.length:Nat):Int)+1)=((kt.length+1:Nat):Int):=(wrap_i64 (by omega) (by omega)).trans (by omega)
  repeat (first | (apply wo_po;apply mo_makeFunc (first:=[]) (cap:=[_,_,_,_,_]) (vf:=[]);exact .nil;exact .cons rfl (.cons rfl (.cons rfl (.cons rfl (.cons rfl .nil))));exact trivial) | (apply wo_mo;apply mo_buildSlice (sz:=1) (vs:=[mtF yb mb qb tB kb]);exact rfl;exact .cons rfl .nil;exact rfl;(intro v hv;cases (List.mem_singleton.1 hv);exact rfl);omega;exact trivial) | refine wlssT ?_ | refine we_seq ?_ | (refine wR ?_;try simp only [oS]) | refine wo_nil ?_ | refine wM ?_ | refine wL ?_ | refine wT ?_ | refine we_skip ?_ | refine we_block ?_)
  rintro v' L' ⟨nb2,rfl,rfl⟩
  repeat (first | (apply wo_mo;apply mo_append (sz:=1) (new:=[mtF yb mb qb tB kb]);exact rfl;exact rfl;exact rfl;exact rfl;exact (.there .here);exact rfl;exact .inr ⟨_,_,rfl,Rds.all .here⟩;(intro v hv;cases (List.mem_singleton.1 hv);exact rfl);(simp only [sliceLen];omega);exact trivial))
  rintro v' L' rfl
  repeat (first | (apply wo_mo;apply mo_alloc;exact trivial) | refine we_seq ?_ | (refine wR ?_;try simp only [oS]) | refine wo_nil ?_ | refine wA ?_ | refine wL ?_)
  rintro w' L' ⟨kb2,rfl,rfl⟩
  repeat (first | (apply wo_po;apply mo_bin;exact rfl;exact rfl;apply bin_add;exact w2;exact trivial) | refine wS ?_ | (refine wR ?_;try simp only [oS]) | refine wo_nil ?_ | refine wL ?_)
  refine at_roundS (B:=mT) (I:=mnL2 pv pn tn yb mb qb pB tB (mrSum Wf ks.length) ks L4) (R:=fun j=>tn-j.1<tn-kt.length) (kt.length+1,v',kt++[kb],kb2) (by show tn-(kt.length+1)<tn-kt.length;omega) ⟨by show kt.length+1≤tn;omega,by simp⟩ ⟨rfl,rfl,rfl,rfl,rfl,rfl,rfl,rfl,rfl,rfl,rfl,trivial⟩ (fun h st=>?_) rfl
  show Star (vec 1 v' ((ks.map fun y=>mpF y.1 y.2 qb pB)++(kt++[kb]).map fun kb=>mtF yb mb qb tB kb)::all (mtBs (kt++[kb]))::arr kb2 0 [.int .i64 ((kt.length+1:Nat):Int)]::L4) h
  rw [mtBs_snoc,List.map_append,← List.append_assoc]
  have s1:Star (arr kb 0 [.int .i64 (kt.length:Nat)]::all (mtBs kt)::vec 1 v' (((ks.map fun y=>mpF y.1 y.2 qb pB)++kt.map fun kb=>mtF yb mb qb tB kb)++[mtF yb mb qb tB kb])::arr kb2 0 [.int .i64 ((kt.length+1:Nat):Int)]::L4) h:=Ent.star (.take (.there (.there (.there (.there .here)))) (.take (.there (.there (.there .here))) (.take (.there .here) (.take .here (.drop .refl))))) st
  have s2:=star_push s1
  exact Ent.star (.take (.there .here) (.take .here (.take .here .refl))) s2
 obtain hkte:kt.length=tn:=by omega
 by_cases hpos:ks.length+kt.length=0
 ·repeat (first | refine wlssF ?_ | refine weqlT ?_ | refine we_seq ?_ | (refine wR ?_;try simp only [oS]) | refine wo_nil ?_ | refine wM ?_ | refine wA ?_ | refine wL ?_ | refine wE ?_ | refine wT ?_ | refine wF ?_ | refine we_ret ?_ | refine we_exit ?_)
  (first | refine or1 Try.func23 Try.results23 hQ rfl ?_ | refine on1 Try.func23 Try.results23 hQ rfl ?_)
  exact ⟨rfl,rfl⟩
 obtain ⟨zb,zo,rfl⟩:∃ b o,ta=some ⟨b,o,none⟩:=by
  cases ta with
  | none=>have:=htz rfl;omega
  | some y=>exact ⟨y.block,y.off,by rw [hty y rfl]⟩
 let V:HProp:=vec 1 (.slice (some ⟨zb,zo,none⟩) (ks.length+kt.length) tc) ((ks.map fun y=>mpF y.1 y.2 qb pB)++kt.map fun kb=>mtF yb mb qb tB kb)
 let n:Nat:=2^j
 have hn:n=2^j:=rfl
 let hv:Value:=.slice (some ⟨b,0,none⟩) ((n:Nat):Nat) n
 refine we_star (wds (maddr mr r b n) (2*n+5) [] (seqs n)::arr r 2 [hv]::arr mr 3 [.pointer (some ⟨r,0,none⟩)]::arr mr 4 [.chan (some nc)]::newsC nc::arr kb 0 [.int .i64 (kt.length:Nat)]::V::all (mtBs kt)::all (mpBs Wf ks)::arr tB 0 [.slice (some ⟨tb,0,none⟩) tn tn]::arr tb 0 (zeros tn [.slice none 0 0])::arr pB 0 [.slice (some ⟨pb,0,none⟩) pn pn]::arr pb 0 (zeros pn [.slice none 0 0])::arr qb 0 [.pointer (some ⟨mr,0,none⟩)]::arr mb 0 [.int .i64 most]::arr yb 0 [.int .i64 sl,.slice a n0 c,.int .i64 tk,.int .i64 tr]::L) (fun h st=>?_) ?_
 ·have s1:Star (wds (maddr mr r b n) (2*n+5) (mK mr r b n nc) (seqs n)::newsC nc::arr kb 0 [.int .i64 (kt.length:Nat)]::V::all (mtBs kt)::all (mpBs Wf ks)::arr tB 0 [.slice (some ⟨tb,0,none⟩) tn tn]::arr tb 0 (zeros tn [.slice none 0 0])::arr pB 0 [.slice (some ⟨pb,0,none⟩) pn pn]::arr pb 0 (zeros pn [.slice none 0 0])::arr qb 0 [.pointer (some ⟨mr,0,none⟩)]::arr mb 0 [.int .i64 most]::arr yb 0 [.int .i64 sl,.slice a n0 c,.int .i64 tk,.int .i64 tr]::L) h:=Ent.star (.take (.there (.there (.there (.there (.there (.there (.there (.there (.there .here))))))))) (.take (.there (.there (.there (.there (.there (.there (.there (.there (.there .here))))))))) (.take (.there (.there .here)) .refl))) st
  have s2:=wds_cut1 (m_apart hne hm1 hm2) (by intro k hk;simp at hk;rcases hk with rfl | rfl <;> simp [hm1]) s1
  have s3:=wds_cut1 (apart_tail (m_apart hne hm1 hm2)) (by intro k hk;simp at hk;rcases hk with rfl;simp) s2
  have s4:=wds_cut1 (apart_tail (apart_tail (m_apart hne hm1 hm2))) (by intro k hk;simp at hk) s3
  exact Ent.star (.take .here (.take (.there (.there .here)) (.take (.there .here) (.take .here .refl)))) s4
 repeat (first | refine wlssF ?_ | refine weqlF ?_ | refine we_seq ?_ | (refine wR ?_;try simp only [oS]) | refine wo_nil ?_ | refine wM ?_ | refine wL ?_ | refine wE ?_ | refine wF ?_ | refine we_skip ?_ | refine we_exit ?_)
 refine wo_frz (b:=yb) (o:=0) (.there (.there (.there (.there (.there (.there (.there (.there (.there (.there (.there (.there (.there (.there (.there .here))))))))))))))) ?_
 refine wo_frz (b:=mb) (o:=0) (.there (.there (.there (.there (.there (.there (.there (.there (.there (.there (.there (.there (.there (.there (.there .here))))))))))))))) ?_
 refine wo_frz (b:=qb) (o:=0) (.there (.there (.there (.there (.there (.there (.there (.there (.there (.there (.there (.there (.there (.there (.there .here))))))))))))))) ?_
 refine wo_frz (b:=pB) (o:=0) (.there (.there (.there (.there (.there (.there (.there (.there (.there (.there (.there (.there (.there (.there .here)))))))))))))) ?_
 refine wo_frz (b:=tB) (o:=0) (.there (.there (.there (.there (.there (.there (.there (.there (.there (.there (.there (.there (.there .here))))))))))))) ?_
 refine wo_frz (b:=mr) (o:=4) (.there (.there (.there (.there (.there (.there (.there (.there .here)))))))) ?_
 refine wo_frz (b:=mr) (o:=3) (.there (.there (.there (.there (.there (.there (.there (.there .here)))))))) ?_
 refine wo_frz (b:=r) (o:=2) (.there (.there (.there (.there (.there (.there (.there (.there .here)))))))) ?_
 let Ms:List HProp:=[fro r 2 [hv],fro mr 3 [.pointer (some ⟨r,0,none⟩)],fro mr 4 [.chan (some nc)],fro tB 0 [.slice (some ⟨tb,0,none⟩) tn tn],fro pB 0 [.slice (some ⟨pb,0,none⟩) pn pn],fro qb 0 [.pointer (some ⟨mr,0,none⟩)],fro mb 0 [.int .i64 most],fro yb 0 [.int .i64 sl,.slice a n0 c,.int .i64 tk,.int .i64 tr],all L]
 let Ro:HProp:=all Ms
 have hRo:Dup Ro:=dup_all (by intro c hc;simp [Ms] at hc;rcases hc with rfl | rfl | rfl | rfl | rfl | rfl | rfl | rfl | rfl <;> first | exact dup_fro | exact hL)
 have rA:∀ {b o:Nat} {v:Value} {M:List HProp},Rd Ms b o v→Rd (Ro::M) b o v:=fun r=>rd_allQ r
 have O:MnRo Ro yb mb qb pB tB mr pb tb pn tn tr most:=⟨rA (.there (.there (.there (.there (.there (Rd.fro (k:=0) rfl rfl)))))),rA (.there (.there (.there (.there (Rd.fro (k:=0) rfl rfl))))),rA (.there (.there (.there (Rd.fro (k:=0) rfl rfl)))),rA (.there (.there (.there (.there (.there (.there (.there (Rd.fro (k:=3) rfl rfl)))))))),rA (.there (.there (.there (.there (.there (.there (Rd.fro (k:=0) rfl rfl)))))))⟩
 have OM:MrRo Ro mr r b n nc:=⟨rA (Rd.fro (k:=0) rfl rfl),rA (.there (Rd.fro (k:=0) rfl rfl)),rA (.there (.there (Rd.fro (k:=0) rfl rfl)))⟩
 let D:MnD:={ n:=n,j:=j,mr:=mr,r:=r,b:=b,nc:=nc,yb:=yb,mb:=mb,qb:=qb,pB:=pB,tB:=tB,pb:=pb,tb:=tb,pn:=pn,tn:=tn,T:=T,tries:=tr,most:=most,Wf:=Wf,kp:=ks,kt:=kt,Ro:=Ro }
 have hD:MnOk D:=⟨hne,hm1,hm2,hn,⟨hj1,by show j≤10;omega⟩,hpn4,htn3,by show 0<pn+tn;omega,hW2,hm,h3,hT,O,OM,hRo,hke,hkte⟩
 have hrt:RdsO [Ro,V] (some ⟨zb,zo,none⟩) (pn+tn) (mrFv D):=⟨by show pn+tn=(mrFv D).length;simp [mrFv,D,hke,hkte],.inr ⟨zb,zo,rfl,fun i v hv=>rd_vec (.there .here) hv⟩⟩
 have hnt:ks.length+kt.length=pn+tn:=by omega
 rw [hnt]
 refine wo_callv (fv:=pv) rfl rfl (.cons rfl .nil) trivial (tr_star (mrU D (seqs n)::all (mrMs D)::[Ro,V]) (fun h st=>?_) (hplay D (some ⟨zb,zo,none⟩) tc [Ro,V] hD rfl hrt (hP _ fun q=>rA (.there (.there (.there (.there (.there (.there (.there (.there (rd_allQ q)))))))))))) ?_
 ·have s0:Star (all L::fro r 2 [hv]::fro mr 3 [.pointer (some ⟨r,0,none⟩)]::fro mr 4 [.chan (some nc)]::fro tB 0 [.slice (some ⟨tb,0,none⟩) tn tn]::fro pB 0 [.slice (some ⟨pb,0,none⟩) pn pn]::fro qb 0 [.pointer (some ⟨mr,0,none⟩)]::fro mb 0 [.int .i64 most]::fro yb 0 [.int .i64 sl,.slice a n0 c,.int .i64 tk,.int .i64 tr]::wds (maddr mr r b n) (2*n+5) [] (seqs n)::newsC nc::arr kb 0 [.int .i64 (kt.length:Nat)]::V::all (mtBs kt)::all (mpBs Wf ks)::arr tb 0 (zeros tn [.slice none 0 0])::arr pb 0 (zeros pn [.slice none 0 0])::[]) h:=star_tail (M:=[_,_,_,_,_,_,_,_,_,_,_,_,_,_,_,_]) st
  have s1:Star (fro r 2 [hv]::fro mr 3 [.pointer (some ⟨r,0,none⟩)]::fro mr 4 [.chan (some nc)]::fro tB 0 [.slice (some ⟨tb,0,none⟩) tn tn]::fro pB 0 [.slice (some ⟨pb,0,none⟩) pn pn]::fro qb 0 [.pointer (some ⟨mr,0,none⟩)]::fro mb 0 [.int .i64 most]::fro yb 0 [.int .i64 sl,.slice a n0 c,.int .i64 tk,.int .i64 tr]::all L::all (mpBs Wf ks)::arr pb 0 (zeros pn [.slice none 0 0])::all (mtBs kt)::arr tb 0 (zeros tn [.slice none 0 0])::wds (maddr mr r b n) (2*n+5) [] (seqs n)::newsC nc::V::[]) h:=Ent.star (.take (.there .here) (.take (.there .here) (.take (.there .here) (.take (.there .here) (.take (.there .here) (.take (.there .here) (.take (.there .here) (.take (.there .here) (.take .here (.take (.there (.there (.there (.there (.there .here))))) (.take (.there (.there (.there (.there (.there (.there .here)))))) (.take (.there (.there (.there (.there .here)))) (.take (.there (.there (.there (.there .here)))) (.take .here (.take .here (.drop .refl)))))))))))))))) s0
  rw [zeros_rep,zeros_rep] at s1
  have hb1:(mpBs Wf ks).length=pn:=by simp [mpBs,hke]
  have hb2:(mtBs kt).length=tn:=by simp [mtBs,hkte]
  have s2:Star (Ro::all (mpBs Wf ks)::arr pb 0 (List.replicate pn (.slice none 0 0))::all (mtBs kt)::arr tb 0 (List.replicate tn (.slice none 0 0))::wds (maddr mr r b n) (2*n+5) [] (seqs n)::newsC nc::V::[]) h:=star_shut (M:=[_,_,_,_,_,_,_,_,_]) s1
  have s3:Star (Ro::all (mpBs Wf ks)::arr pb 0 (List.replicate (mpBs Wf ks).length (.slice none 0 0))::all (mtBs kt)::arr tb 0 (List.replicate tn (.slice none 0 0))::wds (maddr mr r b n) (2*n+5) [] (seqs n)::newsC nc::V::[]) h:=by rw [hb1];exact s2
  have s4:=dealM hRo s3
  have s5:Star (Ro::all (mtBs kt)::arr tb 0 (List.replicate (mtBs kt).length (.slice none 0 0))::all ((mpBs Wf ks).mapIdx fun i p=>mrM Ro pb i p)::wds (maddr mr r b n) (2*n+5) [] (seqs n)::newsC nc::V::[]) h:=by rw [hb2];exact Ent.star (.take (.there .here) (.take (.there .here) (.take (.there .here) (.take .here .refl)))) s4
  have s6:=dealM hRo s5
  have s7:Star (all ((mpBs Wf ks).mapIdx fun i p=>mrM Ro pb i p)::all ((mtBs kt).mapIdx fun i p=>mrM Ro tb i p)::Ro::wds (maddr mr r b n) (2*n+5) [] (seqs n)::newsC nc::V::[]) h:=Ent.star (.take (.there (.there .here)) (.take .here (.take .here .refl))) s6
  have s8:Star (all (mrMs D)::Ro::wds (maddr mr r b n) (2*n+5) [] (seqs n)::newsC nc::V::[]) h:=star_join s7
  have s9:Star (wds (maddr mr r b n) (2*n+5) [] (seqs n)::newsC nc::all (mrMs D)::Ro::V::[]) h:=Ent.star (.take (.there (.there .here)) (.take (.there (.there .here)) (.take .here (.take .here .refl)))) s8
  exact star_shut (M:=[_,_]) s9
 rintro v1 L1 x1 ⟨fr,s,qs,hI,hE,hdn,hql,rfl,rfl,rfl⟩
 have hEnd:=mn_end hD hI hE hdn
 refine wo_star ((fun h=>∃ svs:List Value,all [fun _=>svs.length=qs.length∧∀ (k:Nat) sv,svs[k]?=some sv→ShpQ sv (qfOut s pn k).length,all (svs.mapIdx (qfC pb tb pn s)),all [wds (maddr mr r b n) (2*n+5) [] s.f,Ro],Ro] h)::[]) (fun h st=>?_) ?_
 ·have t1:Star (wds (maddr mr r b n) (2*n+5) [] s.f::newsC nc::all (mrL D qs)::Ro::V::[]) h:=star_open (M:=[_,_]) st
  have t2:Star (all (mrL D qs)::Ro::wds (maddr mr r b n) (2*n+5) [] s.f::[]) h:=Ent.star (.take (.there (.there .here)) (.take (.there (.there .here)) (.take .here (.drop (.drop .refl))))) t1
  obtain ⟨svs,hs,t3⟩:=qf_left hI hdn t2
  have t4:Star (Ro::Ro::all (svs.mapIdx (qfC pb tb pn s))::wds (maddr mr r b n) (2*n+5) [] s.f::[]) h:=hRo _ _ (star_swap t3)
  have t5:Star (wds (maddr mr r b n) (2*n+5) [] s.f::Ro::all (svs.mapIdx (qfC pb tb pn s))::Ro::[]) h:=Ent.star (.take (.there (.there (.there .here))) (.take .here (.take (.there .here) (.take .here .refl)))) t4
  have t6:Star (all [wds (maddr mr r b n) (2*n+5) [] s.f,Ro]::all (svs.mapIdx (qfC pb tb pn s))::Ro::[]) h:=star_shut (M:=[_,_]) t5
  have t7:=star_p hs (star_swap t6)
  exact star_map (star_shut (M:=[_,_,_,_]) (L:=[]) t7) (fun h' z=>⟨svs,z⟩) fun _ z=>z
 refine wo_ex .here fun svs=>?_
 refine wo_pure (p:=svs.length=qs.length∧∀ (k:Nat) sv,svs[k]?=some sv→ShpQ sv (qfOut s pn k).length) (fun h st=>by obtain ⟨_,_,_,⟨_,_,_,h1,_⟩,_⟩:=st;exact h1) fun ⟨hsl,hsS⟩=>?_
 refine wo_star [all [wds (maddr mr r b n) (2*n+5) [] s.f,Ro],all (svs.mapIdx (qfC pb tb pn s)),Ro] (fun h st=>?_) ?_
 ·have s1:Star ((fun _=>svs.length=qs.length∧∀ (k:Nat) sv,svs[k]?=some sv→ShpQ sv (qfOut s pn k).length)::all (svs.mapIdx (qfC pb tb pn s))::all [wds (maddr mr r b n) (2*n+5) [] s.f,Ro]::Ro::[]) h:=star_open (M:=[_,_,_,_]) st
  exact star_swap (star_drop s1)
 have q9:∀ {A B:HProp} {M:List HProp},Rd (A::B::Ro::M) qb 0 (.pointer (some ⟨mr,0,none⟩)):=.there (.there (rA (.there (.there (.there (.there (.there (Rd.fro (k:=0) rfl rfl))))))))
 have q9':∀ {A B C:HProp} {M:List HProp},Rd (A::B::C::Ro::M) qb 0 (.pointer (some ⟨mr,0,none⟩)):=.there q9
 have q11:∀ {A B C:HProp} {M:List HProp},Rd (A::B::C::Ro::M) pB 0 (.slice (some ⟨pb,0,none⟩) pn pn):=.there (.there (.there (rA (.there (.there (.there (.there (Rd.fro (k:=0) rfl rfl))))))))
 have q12:∀ {A B C:HProp} {M:List HProp},Rd (A::B::C::Ro::M) tB 0 (.slice (some ⟨tb,0,none⟩) tn tn):=.there (.there (.there (rA (.there (.there (.there (Rd.fro (k:=0) rfl rfl)))))))
 repeat (first | (apply wo_po;apply mo_load;exact rfl;exact q9;exact trivial) | refine we_seq ?_ | (refine wR ?_;try simp only [oS]) | refine wo_nil ?_ | (apply wo_po;apply mo_not;exact rfl;exact gY) | refine wF ?_ | refine we_skip ?_)
 refine wo_call (.cons rfl (.cons rfl .nil)) trivial (counts_keep hne hm1 hm2 hn (by omega) OM .here) ?_
 rintro v1 L1 x1 ⟨rfl,rfl,rfl⟩
 repeat (first | refine we_seq ?_ | (refine wR ?_;try simp only [oS]) | refine wo_nil ?_ | refine wM ?_ | refine wA ?_ | (apply wo_po;apply mo_extract;exact rfl;exact rfl;exact gY) | refine we_block ?_)
 obtain ⟨E1,E2,E3,E4,E5,E6,E7,hrow,kA,kN,kV,kL,kF,kS⟩:=hEnd
 have hLen:(qTs s pn tn).length=tn:=by simp [qTs]
 have hLenP:(qPs s pn).length=pn:=by simp [qPs]
 obtain ⟨⟨g1,g2⟩,g3,g4⟩:=qf_row (pb:=pb) (tb:=tb) (pn:=pn) (tn:=tn) (s:=s) (svs:=svs) (F:=[Ro]) (by rw [hsl,hql]) hsS
 replace E1:s.f (2*n+2)=mrSum Wf pn:=E1
 replace E2:s.f (2*n+3)+s.vs.length=mrSum Wf pn:=E2
 replace E3:s.f (2*n+4)=s.tk.length:=E3
 replace E5:sumN ((qPs s pn).map List.length)=s.vs.length:=E5
 replace E6:sumN ((qTs s pn tn).map List.length)=s.tk.length:=E6
 replace kS:mrSum Wf pn≤200*pn:=kS
 replace hrow:RowAt n s.f (qLeft s):=hrow
 rw [hke]
 obtain ⟨a0,ha0⟩:∃ a,s.f (2*n+2)=a:=⟨_,rfl⟩
 obtain ⟨a1,ha1⟩:∃ a,s.f (2*n+3)=a:=⟨_,rfl⟩
 obtain ⟨a2,ha2⟩:∃ a,s.f (2*n+4)=a:=⟨_,rfl⟩
 rw [ha0,ha1,ha2]
 refine we_star (vec 1 (.slice none 0 0) (([]:List Nat).map num)::all [wds (maddr mr r b n) (2*n+5) [] s.f,Ro]::all (svs.mapIdx (qfC pb tb pn s))::Ro::[]) (fun h st=>vec_nil st) ?_
 refine we_loopN (mnL3 pn tn qb pB tB (mrSum Wf pn) a0 a1 a2 mr r b n Ro (qLeft s) [all (svs.mapIdx (qfC pb tb pn s)),Ro]) (fun i=>i.2.1.length) (s.f,qLeft s,[],.slice none 0 0) ⟨hrow,rfl,ha0,ha1,ha2⟩ ⟨rfl,rfl,rfl,rfl,rfl,rfl,rfl,rfl,rfl,rfl,rfl,trivial⟩ .refl rfl ?_
 rintro ⟨f,row,acc,tv⟩ ⟨c1,c2,c3,c4,c5⟩
 dsimp only at c1 c2 c3 c4 c5
 simp only [mnL3]
 refine we_pure (of_has .here (vec_shape (by omega))) ?_
 rintro ⟨va,vn,vc,rfl,hvn,_,hvz,hvy⟩
 have hvn:vn=acc.length:=by simp at hvn;omega
 subst hvn
 have hacc:acc.length+row.length=s.vs.length-s.tk.length:=by rw [← E7,← c2,List.length_append]
 repeat (first | (apply wo_po;apply mo_load;exact rfl;exact q9';exact trivial) | refine we_seq ?_ | (refine wR ?_;try simp only [oS]) | refine we_block ?_)
 refine wo_call (.cons rfl (.cons rfl .nil)) trivial (take_keep hne hm1 hm2 hn hj1 (by omega) OM c1 (.there .here)) ?_
 rintro v1 L1 x1 ⟨f2,d1,⟨d2,d3,d4⟩,rfl,rfl,rfl⟩
 cases row with
 | cons y row =>
  replace d1:RowAt n f2 row:=d1
  rw [if_neg (by simp)] at d4
  repeat (first | (apply wo_mo;apply mo_buildSlice (sz:=1) (vs:=[num y]);exact rfl;exact .cons rfl .nil;exact rfl;(intro v hv;cases (List.mem_singleton.1 hv);exact rfl);omega;exact trivial) | refine wneqF ?_ | refine we_seq ?_ | (refine wR ?_;try simp only [oS]) | refine wo_nil ?_ | refine wM ?_ | refine wA ?_ | (apply wo_po;apply mo_extract;exact rfl;exact rfl;exact gY) | (apply wo_po;apply mo_not;exact rfl;exact gY) | refine wF ?_ | refine we_skip ?_)
  rintro v' L' ⟨sb2,rfl,rfl⟩
  repeat (first | (apply wo_mo;apply mo_append (sz:=1) (new:=[num y]);exact rfl;exact rfl;exact rfl;exact rfl;exact (.there (.there .here));exact rfl;exact .inr ⟨_,_,rfl,Rds.all .here⟩;(intro v hv;cases (List.mem_singleton.1 hv);exact rfl);(simp only [sliceLen];simp at hacc;omega);exact trivial))
  rintro v' L' rfl
  repeat (first | refine wo_nil ?_ | refine wA ?_)
  refine at_roundS (B:=mT) (I:=mnL3 pn tn qb pB tB (mrSum Wf pn) a0 a1 a2 mr r b n Ro (qLeft s) [all (svs.mapIdx (qfC pb tb pn s)),Ro]) (R:=fun z=>z.2.1.length<(y::row).length) (f2,row,acc++[y],v') (by show row.length<row.length+1;omega) ⟨d1,by show (acc++[y])++row=qLeft s;rw [← c2];simp,by show f2 (2*n+2)=a0;omega,by show f2 (2*n+3)=a1;omega,?_⟩ ⟨rfl,rfl,rfl,rfl,rfl,rfl,rfl,rfl,rfl,rfl,rfl,trivial⟩ (fun h st=>?_) rfl
  ·show f2 (2*n+4)=a2+(acc++[y]).length
   rw [d4,List.length_append,List.length_singleton]
   simp at hacc
   omega
  ·show Star (vec 1 v' ((acc++[y]).map num)::all [wds (maddr mr r b n) (2*n+5) [] f2,Ro]::all (svs.mapIdx (qfC pb tb pn s))::Ro::[]) h
   rw [List.map_append]
   exact Ent.star (.take .here (.drop .refl)) st
 | nil =>
  rw [if_pos rfl] at d4
  obtain rfl:acc=qLeft s:=by rw [← c2,List.append_nil]
  have x0:f2 (2*n+2)=a0:=by omega
  have x1:f2 (2*n+3)=a1:=by omega
  have x2:f2 (2*n+4)=a2+(qLeft s).length:=by omega
  have k1':=Nat.mul_le_mul_left 200 hpn4
  rw [ha0] at E1
  rw [ha1] at E2
  rw [ha2] at E3
  repeat (first | refine wneqF ?_ | refine we_seq ?_ | (refine wR ?_;try simp only [oS]) | refine wo_nil ?_ | refine wM ?_ | refine wA ?_ | (apply wo_po;apply mo_extract;exact rfl;exact rfl;exact gY) | (apply wo_po;apply mo_not;exact rfl;exact gY) | refine wT ?_ | refine wF ?_ | refine we_skip ?_ | refine we_block ?_ | refine we_exit ?_)
  obtain ⟨R,hR⟩:∃ R:List HProp,R=all [wds (maddr mr r b n) (2*n+5) [] f2,Ro]::vec 1 (.slice va (qLeft s).length vc) ((qLeft s).map num)::all (svs.mapIdx (qfC pb tb pn s))::Ro::[]:=⟨_,rfl⟩
  rw [← hR]
  have r7:Rd R qb 0 (.pointer (some ⟨mr,0,none⟩)):=by rw [hR];exact q9'
  have r11:Rd R pB 0 (.slice (some ⟨pb,0,none⟩) pn pn):=by rw [hR];exact q11
  have r12:Rd R tB 0 (.slice (some ⟨tb,0,none⟩) tn tn):=by rw [hR];exact q12
  have G1:RdsO R (some ⟨pb,0,none⟩) pn (svs.take pn):=by rw [hR];exact g1.there.there
  have G2:HdrOk R (svs.take pn) (qPs s pn):=by rw [hR];exact hdr_there (hdr_there g2)
  have G3:RdsO R (some ⟨tb,0,none⟩) tn (svs.drop pn):=by rw [hR];exact g3.there.there
  have G4:HdrOk R (svs.drop pn) (qTs s pn tn):=by rw [hR];exact hdr_there (hdr_there g4)
  have G5:RdsO R va (qLeft s).length ((qLeft s).map num):=by rw [hR];exact rdsoQ (.there .here) (by simp) hvz hvy
  refine we_loopN (mnL4 pn tn qb pB tB (mrSum Wf pn) a0 a1 a2 (.slice va (qLeft s).length vc) (qPs s pn) R) (fun i=>pn-i) 0 (Nat.zero_le _) ⟨rfl,rfl,rfl,rfl,rfl,rfl,rfl,rfl,rfl,rfl,rfl,rfl,rfl,trivial⟩ .refl rfl ?_
  intro k hk
  replace hk:k≤pn:=hk
  simp only [mnL4]
  by_cases hlt:k<pn
  ·obtain ⟨l,hl⟩:∃ l,(qPs s pn)[k]?=some l:=⟨_,List.getElem?_eq_getElem (by rw [hLenP];exact hlt)⟩
   obtain ⟨la,lc,u1,u2⟩:=G2.2 k l hl
   obtain ⟨pb',po',pe,hrd⟩:=G1.rds (by omega)
   cases pe
   have rk:=hrd k _ u1
   have t1:=sum_take hl
   have t2:=sum_upto (l:=qPs s pn) (k+1)
   have w1:IntKind.i64.wrap ((sumN (((qPs s pn).take k).map List.length):Nat)+(l.length:Nat):Int)=((sumN (((qPs s pn).take (k+1)).map List.length):Nat):Int):=(wrap_i64 (by omega) (by omega)).trans (by omega)
   have w2:IntKind.i64.wrap (((k:Nat):Int)+1)=((k+1:Nat):Int):=(wrap_i64 (by omega) (by omega)).trans (by omega)
   repeat (first | (apply wo_po;apply mo_load;exact rfl;(first | exact r11 | exact rk);exact trivial) | (apply wo_po;apply mo_index1;exact rfl;exact rfl;omega;exact trivial) | (apply wo_po;apply mo_bin;exact rfl;exact rfl;apply bin_add;(first | exact w1 | exact w2);exact trivial) | refine wlssT ?_ | refine we_seq ?_ | (refine wR ?_;try simp only [oS]) | refine wo_nil ?_ | refine wM ?_ | refine wA ?_ | refine wE ?_ | refine wT ?_ | refine we_skip ?_ | refine we_block ?_)
   refine at_round (B:=mT) (I:=mnL4 pn tn qb pB tB (mrSum Wf pn) a0 a1 a2 (.slice va (qLeft s).length vc) (qPs s pn) R) (R:=fun j=>pn-j<pn-k) (k+1) (by show pn-(k+1)<pn-k;omega) (by show k+1≤pn;omega) ⟨rfl,rfl,rfl,rfl,rfl,rfl,rfl,rfl,rfl,rfl,rfl,rfl,rfl,trivial⟩ .refl rfl
  obtain rfl:k=pn:=by omega
  rw [List.take_of_length_le (show (qPs s k).length≤k by omega),E5]
  repeat (first | refine wlssF ?_ | refine we_seq ?_ | (refine wR ?_;try simp only [oS]) | refine wo_nil ?_ | refine wM ?_ | refine wA ?_ | refine wF ?_ | refine we_block ?_ | refine we_exit ?_)
  refine we_loopN (mnL5 k tn qb pB tB (mrSum Wf k) a0 a1 a2 s.vs.length (.slice va (qLeft s).length vc) (qTs s k tn) R) (fun i=>tn-i) 0 (Nat.zero_le _) ⟨rfl,rfl,rfl,rfl,rfl,rfl,rfl,rfl,rfl,rfl,rfl,rfl,rfl,trivial⟩ .refl rfl ?_
  intro i hi
  replace hi:i≤tn:=hi
  simp only [mnL5]
  by_cases hlt2:i<tn
  ·obtain ⟨l,hl⟩:∃ l,(qTs s k tn)[i]?=some l:=⟨_,List.getElem?_eq_getElem (by rw [hLen];exact hlt2)⟩
   obtain ⟨la,lc,u1,u2⟩:=G4.2 i l hl
   obtain ⟨tb',to',te,hrd⟩:=G3.rds (by omega)
   cases te
   have rk:=hrd i _ u1
   have t1:=sum_take hl
   have t2:=sum_upto (l:=qTs s k tn) (i+1)
   have w1:IntKind.i64.wrap (((s.vs.length-sumN (((qTs s k tn).take i).map List.length):Nat):Int)-(l.length:Nat))=((s.vs.length-sumN (((qTs s k tn).take (i+1)).map List.length):Nat):Int):=(wrap_i64 (by omega) (by omega)).trans (by omega)
   have w2:IntKind.i64.wrap (((i:Nat):Int)+1)=((i+1:Nat):Int):=(wrap_i64 (by omega) (by omega)).trans (by omega)
   repeat (first | (apply wo_po;apply mo_load;exact rfl;(first | exact r12 | exact rk);exact trivial) | (apply wo_po;apply mo_index1;exact rfl;exact rfl;omega;exact trivial) | (apply wo_po;apply mo_bin;exact rfl;exact rfl;apply bin_sub;exact w1;exact trivial) | (apply wo_po;apply mo_bin;exact rfl;exact rfl;apply bin_add;exact w2;exact trivial) | refine wlssT ?_ | refine we_seq ?_ | (refine wR ?_;try simp only [oS]) | refine wo_nil ?_ | refine wM ?_ | refine wA ?_ | refine wE ?_ | refine wT ?_ | refine we_skip ?_ | refine we_block ?_)
   refine at_round (B:=mT) (I:=mnL5 k tn qb pB tB (mrSum Wf k) a0 a1 a2 s.vs.length (.slice va (qLeft s).length vc) (qTs s k tn) R) (R:=fun j=>tn-j<tn-i) (i+1) (by show tn-(i+1)<tn-i;omega) (by show i+1≤tn;omega) ⟨rfl,rfl,rfl,rfl,rfl,rfl,rfl,rfl,rfl,rfl,rfl,rfl,rfl,trivial⟩ .refl rfl
  obtain rfl:i=tn:=by omega
  rw [List.take_of_length_le (show (qTs s k i).length≤i by omega),E6]
  repeat (first | (apply wo_po;apply mo_load;exact rfl;exact r7;exact trivial) | refine wlssF ?_ | refine we_seq ?_ | (refine wR ?_;try simp only [oS]) | refine wo_nil ?_ | refine wM ?_ | refine wF ?_ | refine we_exit ?_)
  refine wo_call (.cons rfl (.cons rfl .nil)) trivial (counts_keep (f:=f2) hne hm1 hm2 hn (by omega) OM (F:=vec 1 (.slice va (qLeft s).length vc) ((qLeft s).map num)::all (svs.mapIdx (qfC pb tb k s))::Ro::[]) (by rw [hR];exact .here)) ?_
  rintro v1 L1 x1 ⟨rfl,rfl,rfl⟩
  rw [x0,x1,x2,← hR]
  have cT:IntKind.u64.wrap ((mrSum Wf k:Nat):Int)=((mrSum Wf k:Nat):Int):=wrap_u64 (by omega) (by omega)
  have cV:IntKind.u64.wrap ((s.vs.length-s.tk.length:Nat):Int)=((s.vs.length-s.tk.length:Nat):Int):=wrap_u64 (by omega) (by omega)
  have cL:IntKind.u64.wrap (((qLeft s).length:Nat):Int)=(((qLeft s).length:Nat):Int):=wrap_u64 (by omega) (by omega)
  have cA:IntKind.u64.wrap ((a1:Int)+(a2:Int))=((a1+a2:Nat):Int):=(wrap_u64 (by omega) (by omega)).trans (by omega)
  have cB:IntKind.u64.wrap (((a1+a2:Nat):Int)+((s.vs.length-s.tk.length:Nat):Int))=((a1+a2+(s.vs.length-s.tk.length):Nat):Int):=(wrap_u64 (by omega) (by omega)).trans (by omega)
  have cC:IntKind.u64.wrap ((a2:Int)+((qLeft s).length:Int))=((a2+(qLeft s).length:Nat):Int):=(wrap_u64 (by omega) (by omega)).trans (by omega)
  repeat (first | (apply wo_po;apply mo_load;exact rfl;(first | exact r11 | exact r12);exact gY) | (apply wo_po;apply mo_conv;exact rfl;(first | exact cT | exact cV | exact cL);exact gY) | (apply wo_po;apply mo_bin;exact rfl;exact rfl;apply bin_add;(first | exact cA | exact cB | exact cC);exact gY) | refine weqlT ?_ | refine we_seq ?_ | (refine wR ?_;try simp only [oS]) | refine wo_nil ?_ | refine wM ?_ | refine wA ?_ | refine wK ?_ | (apply wo_po;apply mo_extract;exact rfl;exact rfl;exact gY) | refine wE ?_)
  refine wo_call (.cons rfl (.cons rfl (.cons rfl .nil))) rfl (kept_tr G1 G2 G3 G4 G5 (by omega) (by omega) (by have:=Nat.mul_le_mul_right 1600 hpn4;have:(qPs s k).flatten.length≤k*1600:=kF;omega) kV kN (fun l hl=>by have:=kL l hl;omega) kA) ?_
  rintro v1 L1 x1 ⟨rfl,rfl⟩
  repeat (first | refine wo_nil ?_ | refine wA ?_ | refine wK ?_ | refine we_ret ?_)
  (first | refine or1 Try.func23 Try.results23 hQ rfl ?_ | refine on1 Try.func23 Try.results23 hQ rfl ?_)
  exact ⟨rfl,rfl⟩
end
end Go.Proofs.Ytmkkanmkjfnpdaa
namespace Go.Proofs.Ytmkkanmkjfnpdaa
open Go Go.PB
attribute [local irreducible] Mo Bin Eql Tr Wo Ap Wle
section
section
theorem counts_lone0 {B:Hand} [Lets B] {x:B.X} {mr r b n nc:Nat} {f:Nat→Nat} {ap:Apart (maddr mr r b n) (2*n+5) (mK mr r b n nc)} {G:Nat→Nat→Nat→(Nat→Nat)→Prop} (g:G (f (2*n+2)) (f (2*n+3)) (f (2*n+4)) f):CountsT (loneAcc x (maddr mr r b n) (2*n+5) (mK mr r b n nc) ap) n f G :=
 ⟨by show 2*n+2+0<2*n+5;omega,by show 2*n+2+1<2*n+5;omega,by show 2*n+2+2<2*n+5;omega,g⟩
end
section
variable {B:Hand} [Lets B] [Chans B] {L:List HProp} {x:B.X}
theorem works_tr:Tr Try.prog B 10 [] L x fun v L' x'=>v=.bool true∧L'=L∧x'=x:=by
 refine Tr.post (R:=fun v L' x'=>v=.bool true∧x'=x∧∀ h,Star L' h→Star L h) ?_ (by rintro v L' x' ⟨h0,rfl,hs⟩;exact ⟨L,⟨h0,rfl,rfl⟩,hs⟩)
 refine tr_of_body Try.func10 rfl Try.ntmps10 (by simp) fun um Q _ hQ=>?_
 simp only [argE,Nat.zero_add,Nat.reduceAdd]
 repeat (first | refine we_seq ?_ | (refine wR ?_;try simp only [oS]) | refine wo_nil ?_ | refine wA ?_)
 refine wo_call (.cons rfl .nil) trivial (mnew_tr (n:=2) (k:=1) rfl (by omega) (by omega)) ?_
 rintro v' L' x' ⟨mr,r,b,nc,hrb,hmr,hmb,rfl,rfl,rfl⟩
 repeat (first | refine wneqF ?_ | refine we_seq ?_ | (refine wR ?_;try simp only [oS]) | refine wo_nil ?_ | refine wM ?_ | refine wA ?_ | (apply wo_po;apply mo_extract;exact rfl;exact rfl;exact gY) | refine wF ?_ | refine we_skip ?_)
 refine wo_star ((mirLone x' mr r b 2 nc (m_apart hrb hmr hmb)).C (seqs 2)::L) (fun h st=>star_shut (M:=[_,_]) st) ?_
 refine wo_call (.cons rfl (.cons rfl (.cons rfl .nil))) trivial (moffer_tr (A:=(mirLone x' mr r b 2 nc (m_apart hrb hmr hmb))) (lone_at (k:=1) rfl (by omega)) lone_news (v:=5) (by omega) (offer_lone (k:=1) rfl (by omega) (by omega) (RowAt.seqs (by omega) (by omega)) (G:=fun q f'=>q=true∧RowAt 2 f' [5]∧f' (2*2+2)=1∧f' (2*2+3)=0∧f' (2*2+4)=0) (fun f' R' e0 e1 e2=>⟨rfl,R',e0.trans rfl,e1.trans rfl,e2.trans rfl⟩)) .here) ?_
 rintro v' L' x' ⟨q1,f1,⟨rfl,R1,a1,b1,d1⟩,rfl,rfl,rfl⟩
 repeat (first | refine we_seq ?_ | (refine wR ?_;try simp only [oS]) | refine wo_nil ?_ | refine wM ?_ | refine wA ?_ | (apply wo_po;apply mo_extract;exact rfl;exact rfl;exact gY))
 refine wo_call (.cons rfl (.cons rfl (.cons rfl .nil))) trivial (moffer_tr (A:=(mirLone x' mr r b 2 nc (m_apart hrb hmr hmb))) (lone_at (k:=1) rfl (by omega)) lone_news (v:=6) (by omega) (offer_lone (k:=1) rfl (by omega) (by omega) R1 (G:=fun q f'=>q=true∧RowAt 2 f' [5,6]∧f' (2*2+2)=2∧f' (2*2+3)=0∧f' (2*2+4)=0) (fun f' R' e0 e1 e2=>⟨rfl,R',e0.trans (by rw [a1]),e1.trans b1,e2.trans d1⟩)) .here) ?_
 rintro v' L' x' ⟨q2,f2,⟨rfl,R2,a2,b2,d2⟩,rfl,rfl,rfl⟩
 repeat (first | refine we_seq ?_ | (refine wR ?_;try simp only [oS]) | refine wo_nil ?_ | refine wM ?_ | refine wA ?_ | (apply wo_po;apply mo_extract;exact rfl;exact rfl;exact gY))
 refine wo_call (.cons rfl (.cons rfl (.cons rfl .nil))) trivial (moffer_tr (A:=(mirLone x' mr r b 2 nc (m_apart hrb hmr hmb))) (lone_at (k:=1) rfl (by omega)) lone_news (v:=7) (by omega) (offer_lone (k:=1) rfl (by omega) (by omega) R2 (G:=fun q f'=>q=false∧RowAt 2 f' [5,6]∧f' (2*2+2)=3∧f' (2*2+3)=1∧f' (2*2+4)=0) (fun f' R' e0 e1 e2=>⟨rfl,R',e0.trans (by rw [a2]),e1.trans (by rw [b2];rfl),e2.trans d2⟩)) .here) ?_
 rintro v' L' x' ⟨q3,f3,⟨rfl,R3,a3,b3,d3⟩,rfl,rfl,rfl⟩
 repeat (first | refine we_seq ?_ | (refine wR ?_;try simp only [oS]) | refine wo_nil ?_ | refine wM ?_ | refine wA ?_ | (apply wo_po;apply mo_extract;exact rfl;exact rfl;exact gY))
 refine wo_call (.cons rfl (.cons rfl .nil)) trivial (mtake_tr (A:=(mirLone x' mr r b 2 nc (m_apart hrb hmr hmb))) (lone_at (k:=1) rfl (by omega)) (take_lone (k:=1) rfl (by omega) (by omega) R3 (G:=fun q f'=>q=some 5∧f' (2*2+2)=3∧f' (2*2+3)=1∧f' (2*2+4)=1) (fun f' R' e0 e1 e2=>⟨rfl,e0.trans a3,e1.trans b3,e2.trans (by rw [d3];rfl)⟩)) .here) ?_
 rintro v' L' x' ⟨q4,f4,⟨rfl,a4,b4,d4⟩,_,rfl,rfl,rfl⟩
 repeat (first | refine we_seq ?_ | (refine wR ?_;try simp only [oS]) | refine wo_nil ?_ | refine wM ?_ | refine wA ?_ | (apply wo_po;apply mo_extract;exact rfl;exact rfl;exact gY))
 refine wo_call (.cons rfl (.cons rfl .nil)) trivial (mcounts_tr (A:=(mirLone x' mr r b 2 nc (m_apart hrb hmr hmb))) (lone_at (k:=1) rfl (by omega)) (counts_with (A:=loneAcc x' (maddr mr r b 2) (2*2+5) (mK mr r b 2 nc) (m_apart hrb hmr hmb)) (counts_lone0 (G:=fun a b c f'=>a=3∧b=1∧c=1) ⟨a4,b4,d4⟩)) .here) ?_
 rintro v' L' x' ⟨ca,cb,cc,f5,⟨rfl,rfl,rfl⟩,rfl,rfl,rfl⟩
 repeat (first | refine weqlT ?_ | refine we_seq ?_ | (refine wR ?_;try simp only [oS]) | refine wo_nil ?_ | refine wM ?_ | refine wA ?_ | refine wK ?_ | (apply wo_po;apply mo_extract;exact rfl;exact rfl;exact gY) | (apply wo_po;apply mo_not;exact rfl;exact gY) | refine we_ret ?_)
 (first | refine or1 Try.func10 Try.results10 hQ rfl ?_ | refine on1 Try.func10 Try.results10 hQ rfl ?_)
 exact ⟨rfl,rfl,fun h st=>star_drop st⟩
end
end
end Go.Proofs.Ytmkkanmkjfnpdaa
namespace Go.Proofs.Ytmkkanmkjfnpdaa
open Go Go.PB
attribute [local irreducible] Mo Bin Eql Tr Wo Ap Wle
attribute [local instance] Pass.of_no
section
section
variable {L:List HProp} {a:Option Addr} {n0 c:Nat} {l:List Int} {sl tk tr:Int}
theorem mStill_tr (hL:∀ c∈L,Dup c) (hr0:RdsO L a n0 (ints l)) (hlb:∀ v∈l,-9223372036854775808≤v∧v≤9223372036854775807) (hb:n0≤9223372036854775807)
  (h0:-9223372036854775808≤sl∧sl≤9223372036854775807) (h2:-9223372036854775808≤tk∧tk≤9223372036854775807) (h3:-9223372036854775808≤tr∧tr≤9223372036854775807) :
  Tr Try.prog mT 5 [.agg #[.int .i64 sl,.slice a n0 c,.int .i64 tk,.int .i64 tr]] L .idle fun v L' x'=>v=.bool true∧x'=.idle:=by
 refine tr_of_body Try.func5 rfl Try.ntmps5 (by simp) fun um Q _ hQ=>?_
 simp only [argE,Nat.zero_add,Nat.reduceAdd]
 repeat (first | (apply wo_mo;apply mo_box;exact rfl;exact trivial) | refine we_seq ?_ | (refine wR ?_;try simp only [oS]))
 rintro v' L' ⟨yb,rfl,rfl⟩
 refine wo_ent (arr yb 0 [.int .i64 sl,.slice a n0 c,.int .i64 tk,.int .i64 tr]::L) .refl ?_
 repeat (first | refine we_seq ?_ | (refine wR ?_;try simp only [oS]) | refine wo_nil ?_ | refine wA ?_)
 refine wo_call .nil trivial works_tr ?_
 rintro v1 L1 x1 ⟨rfl,rfl,rfl⟩
 repeat (first | (apply wo_po;apply mo_loadA (b:=yb) (c:=0) (vs:=[.int .i64 sl,.slice a n0 c,.int .i64 tk,.int .i64 tr]);exact rfl;exact rfl;exact Rds.all .here;exact rfl) | refine wM ?_)
 refine wo_ent L (.drop .refl) ?_
 refine wo_call (.cons rfl (.cons rfl (.cons rfl .nil))) rfl (many_tr (mf:=24) (cap:=[]) still_play ⟨by omega,by omega⟩ (dup_all hL) (fun _ _=>trivial) hr0 hlb hb h0 h2 h3) ?_
 rintro v1 L1 x1 ⟨rfl,rfl⟩
 repeat (first | refine wo_nil ?_ | refine wA ?_ | refine wK ?_ | refine we_ret ?_)
 (first | refine or1 Try.func5 Try.results5 hQ rfl ?_ | refine on1 Try.func5 Try.results5 hQ rfl ?_)
 exact ⟨rfl,rfl⟩
end
end
end Go.Proofs.Ytmkkanmkjfnpdaa
namespace Go.PB
open Go
section
theorem form_in {c:OpenClaim} (h1:c.start=.entering) (h2:c.stops=[]) {C:Checked} {os:Os} {f:FuncId} {L:List FuncId} {Pre:World→Array Value→Prop} {Post:Stop.Interp→World→Array Value→Value→World→Prop} :
  c.form C os f L Pre Post↔∀ F:Stop.Interp,ReturnsInOpen c.assume none C os f .any c.okInput Pre (Post F) (c.atReturn C.prog) (c.always C.prog L):=by
 unfold OpenClaim.form
 rw [h1,h2]
theorem upto_of {p:Pinned} {s:ChangeSpec} {k:(H:Type)→List (DataW H)→Bool} {c:OpenClaim} (hstart:c.start=.entering) (hstops:c.stops=[]) (hlaid:c.laid=[]) (hout:c.outside=[]) (hnb:c.noBlocks=false) (h:c.holds p (OpenSpec.ofChange s))
  (hfit:∀ f fn,p.checked.prog.funcNamed c.func=some f→p.checked.prog.funcs[f]?=some fn→∀ os:Os,os.Started→∀ (H:Type) (enc:TypeId × Value→H),
   ∃ (w:World) (tape:Tape) (i:Input),w.os=os∧(w.forCall tape i).Shaped p.checked.prog∧i.vars=[]∧Input.okWide p.checked.prog (w.forCall tape i) .any w.heap.size f i ∧
    ({ OpenSpec.ofChange s with cond:=some k }:OpenSpec).pre6 enc p.checked.prog fn c.domain c.apart (w.forCall tape i).memory i.args∧c.assume.holds p.checked.prog (lone (Frame.enter p.checked.prog f i.args .normal) [] (w.forCall tape i))) :
  ({ c with narrowed:=true }:OpenClaim).holds p { OpenSpec.ofChange s with cond:=some k }:=by
 obtain ⟨a1,a2,a3,a4,a5,a6,a7,a8,f,fn,g1,g2,r,b1,b2,b3,b4,b5,kn,c1,c2,c3,c4,c5,c6,m,l,q,n1,v1,e1,L,hL,all⟩:=h
 refine ⟨a1,a2,a3,a4,a5,a6,a7,a8,f,fn,g1,g2,r,b1,b2,b3,b4,b5,kn,c1,c2,c3,c4,c5,c6,m,l,q,by simp,v1,e1,L,hL,fun os x y H enc inj=>?_⟩
 have A:=all os x y H enc inj
 have st:os.Started:=by
  have x':c.world os:=x
  unfold OpenClaim.world at x'
  rw [hout,hstart] at x'
  exact x'
 have fit:=hfit f fn g1 g2 os st H enc
 refine (form_in (c:={ c with narrowed:=true }) hstart hstops).2 fun F=>?_
 have B:=(form_in hstart hstops).1 A F
 rw [OpenClaim.pre_of_none' hlaid] at B
 rw [OpenClaim.pre_of_none' (c:={ c with narrowed:=true }) hlaid]
 obtain ⟨h0,h1,h2,_,h4⟩:=B
 refine ⟨h0,h1,h2,?_,fun w tape i ⟨d1,d2,d3,d4,d5,d6,d7⟩=>h4 w tape i ⟨d1,d2,d3,d4,?_,d6,d7⟩⟩
 ·obtain ⟨w,tape,i,f1,f2,f3,f4,f5,f6⟩:=fit
  refine ⟨w,tape,i,f1,f2,f3,?_,f5,f6,trivial⟩
  show c.okInput _ _ _ _ _ _
  unfold OpenClaim.okInput
  rw [hnb]
  exact f4
 ·obtain ⟨e2,e3⟩:=d5
  obtain ⟨ds,gs,before,z1,z2,z3⟩:=(OpenSpec.pre_some (k:=k) rfl _ _ _ _).1 e2
  exact ⟨⟨ds,gs,before,z1,z2⟩,e3⟩
end
end Go.PB
namespace Go.PB
open Go.Conc Go.Conc.Lib Go.ConcR.Gen
open Go.ConcR (KK stA smA rd wr mk DC0)
def WgAt (ty:TypeId) (wg:Nat) (w:World) (st sm:Int):Prop:=∃ f:Nat × Nat,w.heap[wg]?=some (.cells #[.int .u64 st,.int .u32 sm] ty f)∧w.frozen? ⟨wg,0,none⟩=false∧w.frozen? ⟨wg,1,none⟩=false
section
variable {ty:TypeId} {wg:Nat} {w w':World} {st sm:Int}
theorem WgAt.cellSt (h:WgAt ty wg w st sm):w.cell? (stA wg)=some (.int .u64 st):=by obtain ⟨f,h,_⟩:=h;simp [World.cell?,stA,h]
theorem WgAt.cellSm (h:WgAt ty wg w st sm):w.cell? (smA wg)=some (.int .u32 sm):=by obtain ⟨f,h,_⟩:=h;simp [World.cell?,smA,h]
theorem WgAt.thaw (h:WgAt ty wg w st sm) (n:Nat) (hn:n<2:=by decide):w.frozen? ⟨wg,n,none⟩=false:=by
 obtain ⟨f,_,h0,h1⟩:=h
 rcases n with _ | _ | n
 ·exact h0
 ·exact h1
 ·omega
theorem WgAt.unique {st' sm':Int} (h:WgAt ty wg w st sm) (h':WgAt ty wg w st' sm'):st=st'∧sm=sm':=by
 obtain ⟨f,h,_⟩:=h
 obtain ⟨f',h',_⟩:=h'
 rw [h] at h'
 simp at h'
 exact ⟨h'.1.1,h'.1.2⟩
theorem WgAt.setSt (h:WgAt ty wg w st sm) (v:Int):WgAt ty wg (w.setCell (stA wg) (.int .u64 v)) v sm:=by
 obtain ⟨f,h,h0,h1⟩:=h
 refine ⟨f,?_,by rw [frozen_setCell];exact h0,by rw [frozen_setCell];exact h1⟩
 simp [World.setCell,stA,Array.getElem?_modify,h]
theorem WgAt.setSm (h:WgAt ty wg w st sm) (v:Int):WgAt ty wg (w.setCell (smA wg) (.int .u32 v)) st v:=by
 obtain ⟨f,h,h0,h1⟩:=h
 refine ⟨f,?_,by rw [frozen_setCell];exact h0,by rw [frozen_setCell];exact h1⟩
 simp [World.setCell,smA,Array.getElem?_modify,h]
theorem WgAt.of_heap (h:WgAt ty wg w st sm) (e:w'.heap[wg]?=w.heap[wg]?):WgAt ty wg w' st sm:=by
 obtain ⟨f,h,h0,h1⟩:=h
 have hf:∀ o,w'.frozen? ⟨wg,o,none⟩=w.frozen? ⟨wg,o,none⟩:=fun o=>by unfold World.frozen?;rw [e]
 exact ⟨f,e.trans h,(hf 0).trans h0,(hf 1).trans h1⟩
def WgLive (ty:TypeId) (Wg:Nat) (w:World):Prop:=∃ st sm,WgAt ty Wg w st sm
end
def RL (ty:TypeId) (Wg:Nat) (w w₁:World):Prop:=WgLive ty Wg w→WgLive ty Wg w₁
theorem live_cell {ty:TypeId} {Wg:Nat} {w:World} (h:WgLive ty Wg w):∃ v,w.cell? ⟨Wg,0,none⟩=some v:=let ⟨_,_,x⟩:=h;⟨_,WgAt.cellSt x⟩
section
variable (P:Program) (ty:TypeId) (Wg:Nat)
def Zg (Stop:Goroutine→World→Prop) (m:Nat) (g:Goroutine) (w:World):Prop:=Goes P false (RL ty Wg) DC0 Stop m g w
def Z4 (g:Goroutine) (w:World):Prop :=
 g.status=.running∧mayWake P g=true∧(WgAt ty Wg w 0 0→∃ g' q,stepG P false g w=.go g' (w.setCell (smA Wg) (.int .u32 1)) (semEvents (smA Wg))∧QuitsD P q 1 g')
def Z3 (g:Goroutine) (w:World):Prop :=
 g.status=.running∧(WgAt ty Wg w 1 0→∃ g' m,stepG P false g w=.go g' (w.setCell (stA Wg) (.int .u64 0)) #[wr (stA Wg)]∧Zg P ty Wg (Z4 P ty Wg) m g' (w.setCell (stA Wg) (.int .u64 0)))
def Z2 (g:Goroutine) (w:World):Prop :=
 g.status=.running∧(WgAt ty Wg w 1 0→∃ g' m,stepG P false g w=.go g' w #[rd (stA Wg)]∧Zg P ty Wg (Z3 P ty Wg) m g' w)
def Z1 (g:Goroutine) (w:World):Prop :=
 g.status=.running∧∀ v wt:Nat,wt≤1→v<2147483647→WgAt ty Wg w ((v+1)*KK+wt) 0 →
  ∃ g',stepG P false g w=.go g' (w.setCell (stA Wg) (.int .u64 (v*KK+wt))) #[rd (stA Wg),wr (stA Wg)] ∧
   ((v=0∧wt=1)→∃ m,Zg P ty Wg (Z2 P ty Wg) m g' (w.setCell (stA Wg) (.int .u64 (v*KK+wt))))∧(¬ (v=0∧wt=1)→∃ q,QuitsD P q 1 g')
def ZK (g:Goroutine) (w:World):Prop :=
 g.status=.running∧∃ g' m,stepG P false g w=.go g' w #[mk .disable]∧Zg P ty Wg (Z1 P ty Wg) m g' w
def ZR (g:Goroutine) (w:World):Prop :=
 g.status=.running∧∃ g' m,stepG P false g w=.go g' w #[mk (.releaseMerge (stA Wg))]∧Zg P ty Wg (ZK P ty Wg) m g' w
end
end Go.PB
namespace Go.PB
open Go.Conc Go.Conc.Lib Go.ConcR.Gen
open Go.ConcR (KK stA smA rd wr mk DC0)
theorem quits_more {P:Program}:∀ {n d:Nat} {g:Goroutine},QuitsD P n d g→QuitsD P (n+1) d g
 | 0,_,_,h=>.inl h
 | _+1,_,_,h=>h.imp id fun ⟨hs,g',es,hm,hst,hq⟩=>⟨hs,g',es,hm,hst,quits_more hq⟩
theorem quits_mono {P:Program} {n n' d:Nat} {g:Goroutine} (h:QuitsD P n d g) (hn:n≤n'):QuitsD P n' d g:=by
 induction hn with
 | refl=>exact h
 | step _ ih=>exact quits_more ih
set_option maxRecDepth 100000 in
set_option maxHeartbeats 8000000 in
theorem add_goes [Go.ConcR.Payload] {P:Program} {L:WgLink} (H:WgLib P L) {Wg:Nat} {b₀:Frame} {a₀:Act} {ops₀:Array Oper} {i₀:Nat} {rest₀:List Nat} {k₀:List Item} {cs:List Frame} {qt:Nat}
  (hT:QuitsD P qt 0 (G (b₀.at (a₀.put ((ops₀[i₀]?).bind (·.dst)) (.tuple #[])) (.inRegion ops₀ rest₀::k₀)) cs)) (w:World) (hK:WgLive L.tWg Wg w) :
  Zg P L.tWg Wg (ZR P L.tWg Wg) 20 (G ((Go.Conc.base L.add).at ⟨#[.pointer (some ⟨Wg,0,none⟩),.int .i64 (-1)]++Array.replicate 115 undef,[]⟩ [.code (body_add L)]) (b₀.at a₀ (.inRegion ops₀ (i₀::rest₀)::k₀)::cs)) w:=by
 lib_facts
 simp only [body_add,addFn,Option.getD_some,Array.replicate_succ,Array.replicate_zero]
 unfold Zg
 have key:∀ {w w₁:World},WgLive L.tWg Wg w→RL L.tWg Wg w w₁→WgLive L.tWg Wg w₁:=fun h r=>r h
 walk_nrm
 repeat (first | u_c stepG_seq key hK | u_c stepG_region_end key hK | u_c stepG_skip key hK | u_reg key hK | u_skip key hK | u_op key hK | u_cond true key hK | u_cond false key hK | u_c stepG_ret' key hK | u_c stepG_block key hK | u_c stepG_loop key hK | u_c stepG_end key hK | u_defer key hK | u_leave1 H.f_uAdd key hK | u_leave1 H.f_uLoad key hK | u_leave0 H.f_uStore key hK | u_call H.f_uAdd (nm_uAdd L) uAddFn key hK | u_call H.f_uLoad (nm_uLoad L) uLoadFn key hK | u_call H.f_uStore (nm_uStore L) uStoreFn key hK | u_bub key hK)
 u_conv H.underlying_tWgP H.room_tWg (live_cell hK).choose_spec key hK
 refine Goes.stop (fun w₁ h₁=>?_)
 replace hK:=key hK h₁
 clear h₁
 refine ⟨rfl,_,30,stepG_markAt .releaseMerge (by simp) rfl rfl (by k_ne) rfl H.f_relMerge (x_relMerge_n L) (x_relMerge_b L) (x_relMerge_x L) (x_relMerge_f L) (by simp [Act.eval,stA]),?_⟩
 unfold Zg
 walk_nrm
 repeat (first | u_c stepG_seq key hK | u_c stepG_region_end key hK | u_c stepG_skip key hK | u_reg key hK | u_skip key hK | u_op key hK | u_cond true key hK | u_cond false key hK | u_c stepG_ret' key hK | u_c stepG_block key hK | u_c stepG_loop key hK | u_c stepG_end key hK | u_defer key hK | u_leave1 H.f_uAdd key hK | u_leave1 H.f_uLoad key hK | u_leave0 H.f_uStore key hK | u_call H.f_uAdd (nm_uAdd L) uAddFn key hK | u_call H.f_uLoad (nm_uLoad L) uLoadFn key hK | u_call H.f_uStore (nm_uStore L) uStoreFn key hK | u_bub key hK)
 refine Goes.stop (fun w₁ h₁=>?_)
 replace hK:=key hK h₁
 clear h₁
 refine ⟨rfl,_,80,stepG_mark0 .disable (by simp) rfl rfl (by k_ne) rfl H.f_disable (x_disable_n L) (x_disable_b L) (x_disable_x L) (x_disable_f L),?_⟩
 unfold Zg
 walk_nrm
 repeat (first | u_c stepG_seq key hK | u_c stepG_region_end key hK | u_c stepG_skip key hK | u_reg key hK | u_skip key hK | u_op key hK | u_cond true key hK | u_cond false key hK | u_c stepG_ret' key hK | u_c stepG_block key hK | u_c stepG_loop key hK | u_c stepG_end key hK | u_defer key hK | u_leave1 H.f_uAdd key hK | u_leave1 H.f_uLoad key hK | u_leave0 H.f_uStore key hK | u_call H.f_uAdd (nm_uAdd L) uAddFn key hK | u_call H.f_uLoad (nm_uLoad L) uLoadFn key hK | u_call H.f_uStore (nm_uStore L) uStoreFn key hK | u_bub key hK)
 refine Goes.stop (fun w₁ h₁=>?_)
 clear h₁ hK
 refine ⟨rfl,fun v wt hwt hv hw=>?_⟩
 have e0:IntKind.u64.wrap (KK+18446744069414584320)=0:=by decide
 have e1:IntKind.u64.wrap (KK+1+18446744069414584320)=1:=by decide
 rcases Nat.eq_zero_or_pos v with rfl | hvp <;> (obtain rfl | rfl:wt=0∨wt=1:=by omega)
 ·-- nobody is left,nobody waits
  replace hw:WgAt L.tWg Wg w₁ KK 0:=by simpa using hw
  have z:((0:Nat):Int)*KK+((0:Nat):Int)=0:=by simp
  rw [z]
  refine ⟨_,(stepG_add_atomic rfl rfl (by k_ne) rfl H.f_addU64 (x_addU64_n L) (x_addU64_b L) (x_addU64_x L) .u64 (x_addU64_f L) rfl rfl (WgAt.cellSt hw) (WgAt.thaw hw 0)).trans (by rw [e0];rfl),fun hl=>absurd hl.2 (by decide),fun _=>⟨qt+200,?_⟩⟩
  clear hw
  walk_nrm
  q_val (.int .u64 0)
  q_c stepG_region_end
  q_c stepG_ret'
  q_leave1 H.f_uAdd
  q_val (.int .u64 0)
  q_c stepG_region_end
  q_c stepG_seq
  q_c stepG_seq
  q_reg
  q_val (.int .u64 0)
  q_val (.int .u64 0)
  q_val (.bool false)
  q_val (.bool false)
  q_skip
  q_skip
  q_val (.bool false)
  q_c stepG_region_end
  q_cond false
  q_c stepG_skip
  q_c stepG_seq
  q_reg
  q_val (.int .u64 0)
  q_val (.int .u64 0)
  q_val (.int .i32 0)
  q_val (.int .i32 0)
  q_c stepG_region_end
  q_c stepG_seq
  q_reg
  q_val (.int .u64 0)
  q_val (.int .u64 0)
  q_val (.int .u32 0)
  q_val (.int .u32 0)
  q_c stepG_region_end
  q_c stepG_seq
  q_c stepG_seq
  q_reg
  q_val (.bool true)
  q_val (.int .i64 (-1))
  q_val (.bool false)
  q_val (.bool false)
  q_val (.bool false)
  q_skip
  q_skip
  q_skip
  q_skip
  q_val (.bool false)
  q_c stepG_region_end
  q_cond false
  q_c stepG_skip
  q_c stepG_seq
  q_c stepG_seq
  q_reg
  q_val (.int .i32 0)
  q_val (.bool false)
  q_c stepG_region_end
  q_cond false
  q_c stepG_skip
  q_c stepG_seq
  q_c stepG_seq
  q_reg
  q_val (.int .u32 0)
  q_val (.bool false)
  q_val (.bool false)
  q_skip
  q_skip
  q_val (.bool false)
  q_val (.bool false)
  q_skip
  q_skip
  q_skip
  q_skip
  q_val (.bool false)
  q_c stepG_region_end
  q_cond false
  q_c stepG_skip
  q_c stepG_seq
  q_c stepG_seq
  q_reg
  q_val (.int .i32 0)
  q_val (.bool false)
  q_val (.bool false)
  q_val (.int .u32 0)
  q_val (.bool true)
  q_val (.bool true)
  q_c stepG_region_end
  q_cond true
  q_c stepG_ret'
  q_enable
  q_leave0 H.f_add
  exact quits_mono hT (by omega)
 ·-- nobody is left,the starter waits: the last one
  replace hw:WgAt L.tWg Wg w₁ (KK+1) 0:=by simpa using hw
  have z:((0:Nat):Int)*KK+((1:Nat):Int)=1:=by simp
  rw [z]
  refine ⟨_,(stepG_add_atomic rfl rfl (by k_ne) rfl H.f_addU64 (x_addU64_n L) (x_addU64_b L) (x_addU64_x L) .u64 (x_addU64_f L) rfl rfl (WgAt.cellSt hw) (WgAt.thaw hw 0)).trans (by rw [e1];rfl),fun _=>⟨150,?_⟩,fun hl=>absurd ⟨rfl,rfl⟩ hl⟩
  have hK:WgLive L.tWg Wg (w₁.setCell (stA Wg) (.int .u64 1)):=⟨_,_,WgAt.setSt hw 1⟩
  clear hw
  unfold Zg
  walk_nrm
  u_op key hK
  u_c stepG_region_end key hK
  u_c stepG_ret' key hK
  u_leave1 H.f_uAdd key hK
  u_op key hK
  u_c stepG_region_end key hK
  u_c stepG_seq key hK
  u_c stepG_seq key hK
  u_reg key hK
  u_op key hK
  u_op key hK
  u_op key hK
  u_op key hK
  u_skip key hK
  u_skip key hK
  u_op key hK
  u_c stepG_region_end key hK
  u_cond false key hK
  u_c stepG_skip key hK
  u_c stepG_seq key hK
  u_reg key hK
  u_op key hK
  u_op key hK
  u_op key hK
  u_op key hK
  u_c stepG_region_end key hK
  u_c stepG_seq key hK
  u_reg key hK
  u_op key hK
  u_op key hK
  u_op key hK
  u_op key hK
  u_c stepG_region_end key hK
  u_c stepG_seq key hK
  u_c stepG_seq key hK
  u_reg key hK
  u_op key hK
  u_op key hK
  u_op key hK
  u_op key hK
  u_op key hK
  u_skip key hK
  u_skip key hK
  u_skip key hK
  u_skip key hK
  u_op key hK
  u_c stepG_region_end key hK
  u_cond false key hK
  u_c stepG_skip key hK
  u_c stepG_seq key hK
  u_c stepG_seq key hK
  u_reg key hK
  u_op key hK
  u_op key hK
  u_c stepG_region_end key hK
  u_cond false key hK
  u_c stepG_skip key hK
  u_c stepG_seq key hK
  u_c stepG_seq key hK
  u_reg key hK
  u_op key hK
  u_op key hK
  u_op key hK
  u_op key hK
  u_op key hK
  u_op key hK
  u_op key hK
  u_skip key hK
  u_skip key hK
  u_skip key hK
  u_skip key hK
  u_op key hK
  u_c stepG_region_end key hK
  u_cond false key hK
  u_c stepG_skip key hK
  u_c stepG_seq key hK
  u_c stepG_seq key hK
  u_reg key hK
  u_op key hK
  u_op key hK
  u_op key hK
  u_op key hK
  u_op key hK
  u_op key hK
  u_c stepG_region_end key hK
  u_cond false key hK
  u_c stepG_skip key hK
  u_c stepG_seq key hK
  u_c stepG_seq key hK
  u_reg key hK
  u_op key hK
  u_op key hK
  u_op key hK
  u_call H.f_uLoad (nm_uLoad L) uLoadFn key hK
  u_c stepG_seq key hK
  u_reg key hK
  u_op key hK
  u_c stepG_region_end key hK
  u_c stepG_seq key hK
  u_reg key hK
  u_op key hK
  u_op key hK
  u_op key hK
  refine Goes.stop (fun w₂ h₂=>?_)
  clear h₂ hK
  refine ⟨rfl,fun hw=>⟨_,60,stepG_load_atomic rfl rfl (by k_ne) rfl H.f_loadU64 (x_loadU64_n L) (x_loadU64_b L) (x_loadU64_x L) .u64 (x_loadU64_f L) rfl (WgAt.cellSt hw),?_⟩⟩
  have hK:WgLive L.tWg Wg w₂:=⟨_,_,hw⟩
  clear hw
  unfold Zg
  walk_nrm
  u_op key hK
  u_c stepG_region_end key hK
  u_c stepG_ret' key hK
  u_leave1 H.f_uLoad key hK
  u_op key hK
  u_op key hK
  u_c stepG_region_end key hK
  u_cond false key hK
  u_c stepG_skip key hK
  u_c stepG_seq key hK
  u_reg key hK
  u_op key hK
  u_op key hK
  u_op key hK
  u_call H.f_uStore (nm_uStore L) uStoreFn key hK
  u_reg key hK
  u_op key hK
  u_op key hK
  u_op key hK
  u_op key hK
  refine Goes.stop (fun w₃ h₃=>?_)
  clear h₃ hK
  refine ⟨rfl,fun hw=>⟨_,60,stepG_store_atomic rfl rfl (by k_ne) rfl H.f_storeU64 (x_storeU64_n L) (x_storeU64_b L) (x_storeU64_x L) (x_storeU64_f L) rfl rfl (WgAt.cellSt hw) (WgAt.thaw hw 0),?_⟩⟩
  have hK:WgLive L.tWg Wg (w₃.setCell (stA Wg) (.int .u64 0)):=⟨_,_,WgAt.setSt hw 0⟩
  clear hw
  unfold Zg
  walk_nrm
  u_c stepG_region_end key hK
  u_c stepG_end key hK
  u_leave0 H.f_uStore key hK
  u_c stepG_region_end key hK
  u_c stepG_seq key hK
  u_c stepG_seq key hK
  u_reg key hK
  u_op key hK
  u_c stepG_region_end key hK
  u_cond false key hK
  u_c stepG_skip key hK
  u_c stepG_block key hK
  u_c stepG_loop key hK
  u_c stepG_seq key hK
  u_c stepG_seq key hK
  u_reg key hK
  u_op key hK
  u_op key hK
  u_c stepG_region_end key hK
  u_cond true key hK
  u_c stepG_skip key hK
  u_c stepG_seq key hK
  u_c stepG_block key hK
  u_reg key hK
  u_op key hK
  u_op key hK
  u_op key hK
  refine Goes.stop (fun w₄ h₄=>?_)
  clear h₄ hK
  refine ⟨rfl,mayWake_entry rfl rfl H.f_semrelease (x_semrelease_b L),fun hw=>⟨_,qt+40,(stepG_semrelease rfl rfl (by k_ne) rfl H.f_semrelease (x_semrelease_n L) (x_semrelease_b L) (x_semrelease_x L) (x_semrelease_f L) (by simp [Act.eval,smA]) (WgAt.cellSm hw) (WgAt.thaw hw 1)).trans (by rfl),?_⟩⟩
  clear hw
  walk_nrm
  q_c stepG_region_end
  q_c stepG_inBlock
  q_reg
  q_val (.int .u32 1)
  q_val (.int .u32 0)
  q_val (.int .u32 0)
  q_c stepG_region_end
  q_c stepG_inLoop
  q_c stepG_seq
  q_c stepG_seq
  q_reg
  q_val (.int .u32 0)
  q_val (.bool false)
  q_c stepG_region_end
  q_cond false
  q_exit
  q_c stepG_end
  q_enable
  q_leave0 H.f_add
  exact quits_mono hT (by omega)
 ·-- some are left,nobody waits
  replace hw:WgAt L.tWg Wg w₁ (((v:Nat)+1)*KK+0) 0:=by simpa using hw
  have z:((v:Nat):Int)*KK+((0:Nat):Int)=(v:Int)*KK+0:=by simp
  rw [z]
  have eS:IntKind.u64.wrap (((v:Nat)+1)*KK+0+18446744069414584320)=(v:Int)*KK+0:=by rw [IntKind.wrap_u64];simp only [KK];omega
  obtain ⟨S,hS⟩:∃ S:Int,S=(v:Int)*KK+0:=⟨_,rfl⟩
  rw [← hS] at eS ⊢
  have a1:S/4294967296=(v:Int):=by rw [hS];simp only [KK];omega
  have a2:0≤S∧S<9223372036854775808:=by rw [hS];simp only [KK];omega
  have b1:bits .and .u64 S 2147483648=0:=by rw [hS];have:=Go.ConcN.st_flag v 0 (by omega) (by omega);simpa [KK] using this
  have b2:bits .and .u64 S 2147483647=0:=by rw [hS];have:=Go.ConcN.st_waiters v 0 (by omega) (by omega);simpa [KK] using this
  clear hS z
  refine ⟨_,(stepG_add_atomic rfl rfl (by k_ne) rfl H.f_addU64 (x_addU64_n L) (x_addU64_b L) (x_addU64_x L) .u64 (x_addU64_f L) rfl rfl (WgAt.cellSt hw) (WgAt.thaw hw 0)).trans (by rw [eS];rfl),fun hl=>absurd hl.1 (by omega),fun _=>⟨qt+150,?_⟩⟩
  clear hw
  walk_nrm
  q_vn (.int .u64 S)
  q_c stepG_region_end
  q_c stepG_ret'
  q_leave1 H.f_uAdd
  q_vn (.int .u64 S)
  q_c stepG_region_end
  q_c stepG_seq
  q_c stepG_seq
  q_reg
  q_vn (.int .u64 S)
  q_vn (.int .u64 0)
  q_vn (.bool false)
  q_vn (.bool false)
  q_skip
  q_skip
  q_vn (.bool false)
  q_c stepG_region_end
  q_cond false
  q_c stepG_skip
  q_c stepG_seq
  q_reg
  q_vn (.int .u64 S)
  q_vn (.int .u64 (v:Int))
  q_vn (.int .i32 (v:Int))
  q_vn (.int .i32 (v:Int))
  q_c stepG_region_end
  q_c stepG_seq
  q_reg
  q_vn (.int .u64 S)
  q_vn (.int .u64 0)
  q_vn (.int .u32 0)
  q_vn (.int .u32 0)
  q_c stepG_region_end
  q_c stepG_seq
  q_c stepG_seq
  q_reg
  q_vn (.bool true)
  q_vn (.int .i64 (-1))
  q_vn (.bool false)
  q_vn (.bool false)
  q_vn (.bool false)
  q_skip
  q_skip
  q_skip
  q_skip
  q_vn (.bool false)
  q_c stepG_region_end
  q_cond false
  q_c stepG_skip
  q_c stepG_seq
  q_c stepG_seq
  q_reg
  q_vn (.int .i32 (v:Int))
  q_vn (.bool false)
  q_c stepG_region_end
  q_cond false
  q_c stepG_skip
  q_c stepG_seq
  q_c stepG_seq
  q_reg
  q_vn (.int .u32 0)
  q_vn (.bool false)
  q_vn (.bool false)
  q_skip
  q_skip
  q_vn (.bool false)
  q_vn (.bool false)
  q_skip
  q_skip
  q_skip
  q_skip
  q_vn (.bool false)
  q_c stepG_region_end
  q_cond false
  q_c stepG_skip
  q_c stepG_seq
  q_c stepG_seq
  q_reg
  q_vn (.int .i32 (v:Int))
  q_vn (.bool true)
  q_vn (.bool true)
  q_skip
  q_skip
  q_vn (.bool true)
  q_c stepG_region_end
  q_cond true
  q_c stepG_ret'
  q_enable
  q_leave0 H.f_add
  exact quits_mono hT (by omega)
 ·-- some are left,the starter waits
  replace hw:WgAt L.tWg Wg w₁ (((v:Nat)+1)*KK+1) 0:=by simpa using hw
  have z:((v:Nat):Int)*KK+((1:Nat):Int)=(v:Int)*KK+1:=by simp
  rw [z]
  have eS:IntKind.u64.wrap (((v:Nat)+1)*KK+1+18446744069414584320)=(v:Int)*KK+1:=by rw [IntKind.wrap_u64];simp only [KK];omega
  obtain ⟨S,hS⟩:∃ S:Int,S=(v:Int)*KK+1:=⟨_,rfl⟩
  rw [← hS] at eS ⊢
  have a1:S/4294967296=(v:Int):=by rw [hS];simp only [KK];omega
  have a2:0≤S∧S<9223372036854775808:=by rw [hS];simp only [KK];omega
  have b1:bits .and .u64 S 2147483648=0:=by rw [hS];have:=Go.ConcN.st_flag v 1 (by omega) (by omega);simpa [KK] using this
  have b2:bits .and .u64 S 2147483647=1:=by rw [hS];have:=Go.ConcN.st_waiters v 1 (by omega) (by omega);simpa [KK] using this
  clear hS z
  refine ⟨_,(stepG_add_atomic rfl rfl (by k_ne) rfl H.f_addU64 (x_addU64_n L) (x_addU64_b L) (x_addU64_x L) .u64 (x_addU64_f L) rfl rfl (WgAt.cellSt hw) (WgAt.thaw hw 0)).trans (by rw [eS];rfl),fun hl=>absurd hl.1 (by omega),fun _=>⟨qt+150,?_⟩⟩
  clear hw
  walk_nrm
  q_vn (.int .u64 S)
  q_c stepG_region_end
  q_c stepG_ret'
  q_leave1 H.f_uAdd
  q_vn (.int .u64 S)
  q_c stepG_region_end
  q_c stepG_seq
  q_c stepG_seq
  q_reg
  q_vn (.int .u64 S)
  q_vn (.int .u64 0)
  q_vn (.bool false)
  q_vn (.bool false)
  q_skip
  q_skip
  q_vn (.bool false)
  q_c stepG_region_end
  q_cond false
  q_c stepG_skip
  q_c stepG_seq
  q_reg
  q_vn (.int .u64 S)
  q_vn (.int .u64 (v:Int))
  q_vn (.int .i32 (v:Int))
  q_vn (.int .i32 (v:Int))
  q_c stepG_region_end
  q_c stepG_seq
  q_reg
  q_vn (.int .u64 S)
  q_vn (.int .u64 1)
  q_vn (.int .u32 1)
  q_vn (.int .u32 1)
  q_c stepG_region_end
  q_c stepG_seq
  q_c stepG_seq
  q_reg
  q_vn (.bool true)
  q_vn (.int .i64 (-1))
  q_vn (.bool false)
  q_vn (.bool false)
  q_vn (.bool false)
  q_skip
  q_skip
  q_skip
  q_skip
  q_vn (.bool false)
  q_c stepG_region_end
  q_cond false
  q_c stepG_skip
  q_c stepG_seq
  q_c stepG_seq
  q_reg
  q_vn (.int .i32 (v:Int))
  q_vn (.bool false)
  q_c stepG_region_end
  q_cond false
  q_c stepG_skip
  q_c stepG_seq
  q_c stepG_seq
  q_reg
  q_vn (.int .u32 1)
  q_vn (.bool true)
  q_vn (.bool true)
  q_vn (.int .i64 (-1))
  q_vn (.bool false)
  q_vn (.bool false)
  q_vn (.bool false)
  q_skip
  q_skip
  q_skip
  q_skip
  q_vn (.bool false)
  q_c stepG_region_end
  q_cond false
  q_c stepG_skip
  q_c stepG_seq
  q_c stepG_seq
  q_reg
  q_vn (.int .i32 (v:Int))
  q_vn (.bool true)
  q_vn (.bool true)
  q_skip
  q_skip
  q_vn (.bool true)
  q_c stepG_region_end
  q_cond true
  q_c stepG_ret'
  q_enable
  q_leave0 H.f_add
  exact quits_mono hT (by omega)
end Go.PB
namespace Go.PB
open Go.Conc Go.Conc.Lib Go.ConcR.Gen
open Go.ConcR (KK stA smA rd wr mk DC0)
set_option maxRecDepth 100000 in
theorem add_goes2 [Go.ConcR.Payload] {P:Program} {L:WgLink} (H:WgLib P L) {Wg:Nat} {b₀:Frame} {a₀:Act} {ops₀:Array Oper} {i₀:Nat} {rest₀:List Nat} {k₀:List Item} {cs:List Frame} {qt:Nat}
  (hT:QuitsD P qt 0 (G (b₀.at (a₀.put ((ops₀[i₀]?).bind (·.dst)) (.tuple #[])) (.inRegion ops₀ rest₀::k₀)) cs)) (w:World) (hK:WgLive L.tWg Wg w) :
  Zg P L.tWg Wg (ZR P L.tWg Wg) 20 (G ((Go.Conc.base L.add).at ⟨#[.pointer (some ⟨Wg,0,none⟩),.int .i64 (-1),undef,undef,undef,undef,undef,undef,undef,undef,undef,undef,undef,undef,undef,undef,undef,undef,undef,undef,undef,undef,undef,undef,undef,undef,undef,undef,undef,undef,undef,undef,undef,undef,undef,undef,undef,undef,undef,undef,undef,undef,undef,undef,undef,undef,undef,undef,undef,undef,undef,undef,undef,undef,undef,undef,undef,undef,undef,undef,undef,undef,undef,undef,undef,undef,undef,undef,undef,undef,undef,undef,undef,undef,undef,undef,undef,undef,undef,undef,undef,undef,undef,undef,undef,undef,undef,undef,undef,undef,undef,undef,undef,undef,undef,undef,undef,undef,undef,undef,undef,undef,undef,undef,undef,undef,undef,undef,undef,undef,undef,undef,undef,undef,undef,undef,undef],[]⟩ [.code (body_add L)]) (b₀.at a₀ (.inRegion ops₀ (i₀::rest₀)::k₀)::cs)) w:=by
 have e:(#[.pointer (some ⟨Wg,0,none⟩),.int .i64 (-1),undef,undef,undef,undef,undef,undef,undef,undef,undef,undef,undef,undef,undef,undef,undef,undef,undef,undef,undef,undef,undef,undef,undef,undef,undef,undef,undef,undef,undef,undef,undef,undef,undef,undef,undef,undef,undef,undef,undef,undef,undef,undef,undef,undef,undef,undef,undef,undef,undef,undef,undef,undef,undef,undef,undef,undef,undef,undef,undef,undef,undef,undef,undef,undef,undef,undef,undef,undef,undef,undef,undef,undef,undef,undef,undef,undef,undef,undef,undef,undef,undef,undef,undef,undef,undef,undef,undef,undef,undef,undef,undef,undef,undef,undef,undef,undef,undef,undef,undef,undef,undef,undef,undef,undef,undef,undef,undef,undef,undef,undef,undef,undef,undef,undef,undef]:Array Value)=#[.pointer (some ⟨Wg,0,none⟩),.int .i64 (-1)]++Array.replicate 115 undef:=by kernel_rfl
 rw [e]
 exact add_goes H hT w hK
set_option maxHeartbeats 8000000 in
set_option maxRecDepth 100000 in
theorem done_goes [Go.ConcR.Payload] {P:Program} {L:WgLink} (H:WgLib P L) {Wg:Nat} {c:Frame} {cs:List Frame} {qt:Nat} (hcm:c.mode=.returning) (hT:QuitsD P qt 0 (G c cs)) (w:World) (hK:WgLive L.tWg Wg w) :
  Zg P L.tWg Wg (ZR P L.tWg Wg) 23 (G ((baseD L.done).at ⟨#[.pointer (some ⟨Wg,0,none⟩),undef,undef,undef],[]⟩ [.code (body_done L)]) (c::cs)) w:=by
 lib_facts
 have hA:=@add_goes2 _ P L H Wg
 unfold Zg at hA ⊢
 have key:∀ {w w₁:World},WgLive L.tWg Wg w→RL L.tWg Wg w w₁→WgLive L.tWg Wg w₁:=fun h r=>r h
 simp only [body_done,body_add,doneFn,addFn,Option.getD_some] at hA ⊢
 u_reg key hK
 u_op key hK
 u_in key hK
 refine goes_call rfl rfl (by k_ne) rfl H.f_add (nm_add L) rfl ⟨by u_nil,?_⟩
 walk_nrmf addFn
 refine hA (qt:=qt+3) ?_ _ hK
 q_c stepG_region_end
 q_c stepG_end
 exact QuitsD.leaveD rfl rfl H.f_done rfl hcm hT
theorem done_enter {P:Program} {L:WgLink} (H:WgLib P L) {v:Value}:Frame.enter P L.done #[v] .deferred=(baseD L.done).at ⟨#[v,undef,undef,undef],[]⟩ [.code (body_done L)]:=by
 simp [Frame.enter,H.f_done,body_done,doneFn]
 rfl
end Go.PB
